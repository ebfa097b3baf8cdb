/- Contract: the reference 07's PrintCredentials. -/
import Derived.Test.YtfhbpgickkibmaaGreatDoorDl
import Derived.Test.YtfhbpgickkibmaaGreatDoorDg
namespace Go.Proofs.YtfhbpgickkibmaaGreatDoor
open Go.RowKit

theorem VX.new' (w : World) (T : TypeId) (n : Nat) (cs : List Value) (hn : cs.length = n) (hb : n ≤ 16777216) : VX T 1 w (.slice (some ⟨w.heap.size, 0, none⟩) n n) n cs (w.alloc (.cells cs.toArray T)) :=
  ⟨⟨by omega, .inr ⟨w.heap.size, n, cs.toArray, rfl, Nat.le_refl _, Row.new w T cs, Nat.le_refl _, by unfold maxLen; omega, by simp [hn], by rw [Nat.mul_one, ← hn]; simp⟩⟩, (Below.refl _ _).alloc (Nat.le_refl _) _⟩
/-- The parts printed so far. -/
structure PN (w1 : World) (x : Value) (zs : List ByteArray) (P : List (List Int)) (wr : World) : Prop where
  t : TX w1 x zs wr
  e : zs.map byteL = P
  z : ∀ z ∈ zs, z.size ≤ 9000000
theorem PN.below {w1 : World} {x : Value} {zs : List ByteArray} {P : List (List Int)} {wr w' : World} (h : PN w1 x zs P wr) (hb : Below wr.heap.size wr w') : PN w1 x zs P w' := ⟨h.t.step hb, h.e, h.z⟩
theorem PN.push {w1 : World} {x : Value} {zs L : List ByteArray} {P : List (List Int)} {wr w' : World} {v : Value} {p : ByteArray} {q : List Int} (h : PN w1 x zs P wr) (hL : L = zs ++ [p]) (ht : TX w1 v L w') (hq : byteL p = q) (hp : p.size ≤ 9000000) : PN w1 v L (P ++ [q]) w' := by
  subst hL
  refine ⟨ht, by rw [List.map_append, h.e, ← hq]; rfl, fun z hz => ?_⟩
  rcases List.mem_append.1 hz with h1 | h1
  · exact h.z z h1
  · rw [List.mem_singleton] at h1; subst h1; exact hp
theorem nq_str' (nm : ByteArray) (x : ByteArray) : byteL (nm ++ ⟨#[61]⟩ ++ strOfNums (quoteL (byteL x))) = nq (byteL nm) (byteL x) := by
  rw [byteL_app, byteL_app, byteL_str (quoteL_by (byteL_by x))]; rfl
theorem nq_size' (nm : ByteArray) (x : ByteArray) (h1 : nm.size ≤ 100) (h2 : x.size ≤ 4000000) : (nm ++ ⟨#[61]⟩ ++ strOfNums (quoteL (byteL x))).size ≤ 9000000 := by
  have h := quoteL_len (byteL x)
  rw [byteL_len] at h
  rw [ByteArray.size_append, ByteArray.size_append, num_size]
  show _ + 1 + _ ≤ _
  omega
set_option maxRecDepth 100000 in
set_option maxHeartbeats 4000000 in
theorem refprintcr_any (us rs ns is ps cs os : ByteArray) (k : Int) (g : Bool) (w : World) (hu : us.size ≤ 4000000) (hr : rs.size ≤ 4000000) (hn : ns.size ≤ 4000000) (hi : is.size ≤ 4000000) (hp : ps.size ≤ 4000000) (hc : cs.size ≤ 4000000) (ho : os.size ≤ 4000000) :
    Calls Tryz.prog 15 #[.agg #[.string us, .string rs, .string ns, .string is, .string ps, .string cs, .string os, .int .i64 k, .bool g]] w fun e w' => e = .returned (prV (printCr ⟨byteL us, byteL rs, byteL ns, byteL is, byteL ps, byteL cs, byteL os, k, g⟩)) ∧ Below w.heap.size w w' := by
  have PX1 := Lib.hid (fun (h : k < 0 ∨ 4294967295 < k) => show printCr ⟨byteL us, byteL rs, byteL ns, byteL is, byteL ps, byteL cs, byteL os, k, g⟩ = none from if_pos h)
  have PX2 := Lib.hid (fun (h : ¬ (k < 0 ∨ 4294967295 < k)) => show printCr ⟨byteL us, byteL rs, byteL ns, byteL is, byteL ps, byteL cs, byteL os, k, g⟩ = if cleanCr ⟨byteL us, byteL rs, byteL ns, byteL is, byteL ps, byteL cs, byteL os, k, g⟩ = true then some (partsCr ⟨byteL us, byteL rs, byteL ns, byteL is, byteL ps, byteL cs, byteL os, k, g⟩) else none from if_neg h)
  have CZ := Lib.hid (show cleanZ [us, rs, ns, is, ps, cs, os] = cleanCr ⟨byteL us, byteL rs, byteL ns, byteL is, byteL ps, byteL cs, byteL os, k, g⟩ by unfold cleanZ cleanCr; simp only [List.all_cons, List.all_nil, Bool.and_true])
  have CC := Lib.hid (fun (h : cleanCr ⟨byteL us, byteL rs, byteL ns, byteL is, byteL ps, byteL cs, byteL os, k, g⟩ = true) => show clean (byteL us) = true ∧ clean (byteL rs) = true ∧ clean (byteL ns) = true ∧ clean (byteL is) = true ∧ clean (byteL ps) = true ∧ clean (byteL cs) = true ∧ clean (byteL os) = true by
    unfold cleanCr at h
    simpa only [Bool.and_eq_true] using h)
  generalize hP : printCr ⟨byteL us, byteL rs, byteL ns, byteL is, byteL ps, byteL cs, byteL os, k, g⟩ = PP at *
  clear hP
  generalize hK : cleanCr ⟨byteL us, byteL rs, byteL ns, byteL is, byteL ps, byteL cs, byteL os, k, g⟩ = KK at *
  clear hK
  have RB := Lib.hid (Row.new w 23 [.string us, .string rs, .string ns, .string is, .string ps, .string cs, .string os, .int .i64 k, .bool g])
  have B0 := Lib.hid ((Below.refl w.heap.size w).alloc (Nat.le_refl _) (.cells #[.string us, .string rs, .string ns, .string is, .string ps, .string cs, .string os, .int .i64 k, .bool g] 23))
  have N2 := Lib.hid (rds_new' (w.alloc (.cells #[.string us, .string rs, .string ns, .string is, .string ps, .string cs, .string os, .int .i64 k, .bool g] 23)) 9 [.string us, .string rs, .string ns, .string is, .string ps, .string cs, .string os])
  have BN := Lib.hid ((Below.refl (w.alloc (.cells #[.string us, .string rs, .string ns, .string is, .string ps, .string cs, .string os, .int .i64 k, .bool g] 23)).heap.size (w.alloc (.cells #[.string us, .string rs, .string ns, .string is, .string ps, .string cs, .string os, .int .i64 k, .bool g] 23))).alloc (Nat.le_refl _) (.cells #[.string us, .string rs, .string ns, .string is, .string ps, .string cs, .string os] 9))
  go_enter Tryz.func15, Tryz.ntmps15
  obtain ⟨c0, c1, c2, c3, c4, c5, c6, c7, c8⟩ := RB.out.nine
  have N3 := N2
  rw [show (w.alloc (.cells #[.string us, .string rs, .string ns, .string is, .string ps, .string cs, .string os, .int .i64 k, .bool g] 23)).heap.size = w.heap.size + 1 by simp] at N3
  go_wp2_with fail
  refine (refplain_any _ 7 7 [us, rs, ns, is, ps, cs, os] _ N3.out rfl (by decide) (by
    intro z hz
    simp only [List.mem_cons, List.not_mem_nil, or_false] at hz
    rcases hz with rfl | rfl | rfl | rfl | rfl | rfl | rfl <;> assumption)).mono ?_
  rintro e w1 ⟨rfl, rfl⟩
  have R1 := Lib.hid (RB.out.below BN.out)
  have B1 := Lib.hid (bthen B0.out BN.out)
  clear N2 N3 BN B0 RB c0 c1 c2 c3 c4 c5 c6 c7 c8
  generalize (w.alloc (.cells #[.string us, .string rs, .string ns, .string is, .string ps, .string cs, .string os, .int .i64 k, .bool g] 23)).alloc (.cells #[.string us, .string rs, .string ns, .string is, .string ps, .string cs, .string os] 9) = W at *
  obtain ⟨c0, c1, c2, c3, c4, c5, c6, c7, c8⟩ := R1.out.nine
  rw [CZ.out]
  clear CZ
  cases hKK : KK with
  | false =>
    have E := Lib.hid (show PP = none by
      by_cases hb : k < 0 ∨ 4294967295 < k
      · exact PX1.out hb
      · rw [PX2.out hb, hKK]; rfl)
    clear hKK
    go_wp2_with fail
    go_ret2
    exact ⟨by rw [E.out]; rfl, B1.out⟩
  | true =>
    obtain ⟨h1, h2, h3, h4, h5, h6, h7⟩ := CC.out hKK
    have KT := Lib.hid hKK
    clear hKK
    by_cases hk0 : k < 0
    · have e0 : decide (k < 0) = true := by simp [hk0]
      have E := Lib.hid (PX1.out (.inl hk0))
      clear h1 h2 h3 h4 h5 h6 h7
      go_wp2_with fail
      go_ret2
      exact ⟨by rw [E.out]; rfl, B1.out⟩
    · by_cases hk1 : 4294967295 < k
      · have e0 : decide (k < 0) = false := by simp; omega
        have e1 : decide (4294967295 < k) = true := by simp [hk1]
        have E := Lib.hid (PX1.out (.inr hk1))
        clear hk0 h1 h2 h3 h4 h5 h6 h7
        go_wp2_with fail
        go_ret2
        exact ⟨by rw [E.out]; rfl, B1.out⟩
      · have e0 : decide (k < 0) = false := by simp; omega
        have e1 : decide (4294967295 < k) = false := by simp; omega
        have k0 : 0 ≤ k := by omega
        have k1 : k ≤ 4294967295 := by omega
        have E := Lib.hid (show PP = some (partsCr ⟨byteL us, byteL rs, byteL ns, byteL is, byteL ps, byteL cs, byteL os, k, g⟩) by rw [PX2.out (by rintro (h | h) <;> omega), KT.out]; rfl)
        have NE := Lib.hid (nce_eq k k0)
        have QE := Lib.hid (qope_eq g)
        have qz : (strOfNums (QUAL g)).size ≤ 100 := by rw [num_size]; cases g <;> decide
        have nz : (strOfNums (hex8 k)).size ≤ 100 := by rw [num_size]; show 8 ≤ _; omega
        have qz2 : ¬ (9223372036854775807 < 4 + (strOfNums (QUAL g)).size) := by omega
        have nz2 : ¬ (9223372036854775807 < 3 + (strOfNums (hex8 k)).size) := by omega
        clear hk0 hk1
        go_wp2_with fail
        clear e0 e1
        have BB := Lib.hid (show Below W.heap.size W W.drew from ⟨rfl, rfl, rfl, Nat.le_refl _, fun _ _ => rfl⟩)
        go_region_held3 (fun w' => w'.cell? ⟨w.heap.size, 0, none⟩ = some (.string us) ∧ w'.cell? ⟨w.heap.size, 1, none⟩ = some (.string rs) ∧ w'.cell? ⟨w.heap.size, 2, none⟩ = some (.string ns) ∧ w'.cell? ⟨w.heap.size, 3, none⟩ = some (.string is) ∧ w'.cell? ⟨w.heap.size, 4, none⟩ = some (.string ps) ∧ w'.cell? ⟨w.heap.size, 5, none⟩ = some (.string cs) ∧ w'.cell? ⟨w.heap.size, 7, none⟩ = some (.int .i64 k) ∧ w'.cell? ⟨w.heap.size, 8, none⟩ = some (.bool g)) (first | exact ⟨(R1.out.below BB.out).cell 0, (R1.out.below BB.out).cell 1, (R1.out.below BB.out).cell 2, (R1.out.below BB.out).cell 3, (R1.out.below BB.out).cell 4, (R1.out.below BB.out).cell 5, (R1.out.below BB.out).cell 7, (R1.out.below BB.out).cell 8⟩ | go_keep) (first | (go_at_call 51; refine (refquoted_any _ _ _ (by decide) (by assumption) (by assumption)).mono ?_; rintro e w1 ⟨rfl, hb1⟩; replace BB := Lib.hid (bthen BB.out hb1); clear hb1) | (go_at_call 52; refine (refquality_any _ _).mono ?_; rintro e w2 ⟨rfl, rfl⟩) | (go_at_call 53; refine (digits_any _ _ (by assumption) (by assumption)).mono ?_; rintro e w2 ⟨rfl, rfl⟩))
        have NQa := Lib.hid (nq_str' ⟨#[117, 115, 101, 114, 110, 97, 109, 101]⟩ us)
        have NSa := Lib.hid (nq_size' ⟨#[117, 115, 101, 114, 110, 97, 109, 101]⟩ us (by decide) hu)
        generalize (⟨#[117, 115, 101, 114, 110, 97, 109, 101]⟩ : ByteArray) ++ ⟨#[61]⟩ ++ strOfNums (quoteL (byteL us)) = qa at *
        have NQb := Lib.hid (nq_str' ⟨#[114, 101, 97, 108, 109]⟩ rs)
        have NSb := Lib.hid (nq_size' ⟨#[114, 101, 97, 108, 109]⟩ rs (by decide) hr)
        generalize (⟨#[114, 101, 97, 108, 109]⟩ : ByteArray) ++ ⟨#[61]⟩ ++ strOfNums (quoteL (byteL rs)) = qb at *
        have NQc := Lib.hid (nq_str' ⟨#[110, 111, 110, 99, 101]⟩ ns)
        have NSc := Lib.hid (nq_size' ⟨#[110, 111, 110, 99, 101]⟩ ns (by decide) hn)
        generalize (⟨#[110, 111, 110, 99, 101]⟩ : ByteArray) ++ ⟨#[61]⟩ ++ strOfNums (quoteL (byteL ns)) = qc at *
        have NQd := Lib.hid (nq_str' ⟨#[117, 114, 105]⟩ is)
        have NSd := Lib.hid (nq_size' ⟨#[117, 114, 105]⟩ is (by decide) hi)
        generalize (⟨#[117, 114, 105]⟩ : ByteArray) ++ ⟨#[61]⟩ ++ strOfNums (quoteL (byteL is)) = qd at *
        have NQe := Lib.hid (nq_str' ⟨#[114, 101, 115, 112, 111, 110, 115, 101]⟩ ps)
        have NSe := Lib.hid (nq_size' ⟨#[114, 101, 115, 112, 111, 110, 115, 101]⟩ ps (by decide) hp)
        generalize (⟨#[114, 101, 115, 112, 111, 110, 115, 101]⟩ : ByteArray) ++ ⟨#[61]⟩ ++ strOfNums (quoteL (byteL ps)) = qe at *
        have NQf := Lib.hid (nq_str' ⟨#[99, 110, 111, 110, 99, 101]⟩ cs)
        have NSf := Lib.hid (nq_size' ⟨#[99, 110, 111, 110, 99, 101]⟩ cs (by decide) hc)
        generalize (⟨#[99, 110, 111, 110, 99, 101]⟩ : ByteArray) ++ ⟨#[61]⟩ ++ strOfNums (quoteL (byteL cs)) = qf at *
        generalize (⟨#[113, 111, 112, 61]⟩ : ByteArray) ++ strOfNums (QUAL g) = qg at *
        generalize (⟨#[110, 99, 61]⟩ : ByteArray) ++ strOfNums (hex8 k) = qh at *
        have Z0 := Lib.hid (show PN w1 (.slice (some ⟨w1.heap.size, 0, none⟩) 9 9) [qa, qb, qc, qd, qe, ⟨#[97, 108, 103, 111, 114, 105, 116, 104, 109, 61, 83, 72, 65, 45, 50, 53, 54]⟩, qf, qg, qh] [nq USER (byteL us), nq REALM (byteL rs), nq NONCE (byteL ns), nq URI (byteL is), nq RESP (byteL ps), ALGP, nq CNONCE (byteL cs), QOPE ++ (if g = true then AUTHI else AUTH), NCE ++ hex8 k] (w1.alloc (.cells #[.string qa, .string qb, .string qc, .string qd, .string qe, .string ⟨#[97, 108, 103, 111, 114, 105, 116, 104, 109, 61, 83, 72, 65, 45, 50, 53, 54]⟩, .string qf, .string qg, .string qh] 9)) from ⟨VX.new' w1 9 9 [.string qa, .string qb, .string qc, .string qd, .string qe, .string ⟨#[97, 108, 103, 111, 114, 105, 116, 104, 109, 61, 83, 72, 65, 45, 50, 53, 54]⟩, .string qf, .string qg, .string qh] rfl (by decide), by
          show [byteL qa, byteL qb, byteL qc, byteL qd, byteL qe, byteL ⟨#[97, 108, 103, 111, 114, 105, 116, 104, 109, 61, 83, 72, 65, 45, 50, 53, 54]⟩, byteL qf, byteL qg, byteL qh] = _
          rw [NQa.out, NQb.out, NQc.out, NQd.out, NQe.out, NQf.out, QE.out.1, NE.out.1]; rfl, fun z hz => by
          simp only [List.mem_cons, List.not_mem_nil, or_false] at hz
          rcases hz with rfl | rfl | rfl | rfl | rfl | rfl | rfl | rfl | rfl
          · exact NSa.out
          · exact NSb.out
          · exact NSc.out
          · exact NSd.out
          · exact NSe.out
          · decide
          · exact NSf.out
          · exact QE.out.2
          · exact NE.out.2⟩)
        have HR := Lib.hid (fun (w2 : World) (h : Below w1.heap.size w1 w2) => (R1.out.below (bthen BB.out h)).nine)
        have BF := Lib.hid (bthen B1.out BB.out)
        clear c0 c1 c2 c3 c4 c5 c6 c7 c8 h1 h2 h3 h4 h5 h6
        clear NQa NQb NQc NQd NQe NQf NSa NSb NSc NSd NSe NSf QE NE qz nz qz2 nz2
        generalize hZZ : [qa, qb, qc, qd, qe, ⟨#[97, 108, 103, 111, 114, 105, 116, 104, 109, 61, 83, 72, 65, 45, 50, 53, 54]⟩, qf, qg, qh] = L0 at Z0
        have l0 : L0.length ≤ 9 := by rw [← hZZ]; exact Nat.le_refl _
        clear hZZ
        generalize w1.alloc (.cells #[.string qa, .string qb, .string qc, .string qd, .string qe, .string ⟨#[97, 108, 103, 111, 114, 105, 116, 104, 109, 61, 83, 72, 65, 45, 50, 53, 54]⟩, .string qf, .string qg, .string qh] 9) = W2 at *
        generalize Value.slice (some ⟨w1.heap.size, 0, none⟩) 9 9 = X0 at *
        obtain ⟨c0, c1, c2, c3, c4, c5, c6, c7, c8⟩ := HR.out _ Z0.out.t.bw
        by_cases ho2 : os = ⟨#[]⟩
        · have OE := Lib.hid (fun (A B : List (List Int)) => show (if byteL os = [] then A else B) = A from if_pos ((byteL_empty os).2 ho2))
          subst ho2
          obtain ⟨A9, k9, hx9, _, hrd9⟩ := Z0.out.t.rds
          rw [hx9]
          have RD := Lib.hid hrd9
          have JL := joinL_len [44, 32] 9000000 (L0.map byteL) (fun p hp => by
            obtain ⟨z, hz, rfl⟩ := List.mem_map.1 hp
            rw [byteL_len]
            exact Z0.out.z z hz)
          rw [List.length_map] at JL
          have jl9 : (strOfNums (joinL [44, 32] (L0.map byteL))).size ≤ 1000000000 := by
            rw [num_size]
            have h3 : L0.length * (9000000 + [44, 32].length) ≤ 100 * 9000002 := Nat.mul_le_mul (by omega) (by simp)
            omega
          clear hrd9 JL hx9
          go_wp2_with fail
          refine (joined_any A9 _ k9 L0 _ RD.out (by omega) (by omega) Z0.out.z).mono ?_
          rintro e w9 ⟨rfl, rfl⟩
          go_wp2_with fail
          go_ret2
          exact ⟨by
            rw [E.out, Z0.out.e]
            unfold partsCr
            simp only [OE.out, List.append_nil]
            rfl, bthen BF.out Z0.out.t.bw⟩
        · have OE := Lib.hid (fun (A B : List (List Int)) => show (if byteL os = [] then A else B) = B from if_neg (fun h => ho2 ((byteL_empty os).1 h)))
          have ob : (os.toList == ([] : List UInt8)) = false := by
            rw [Bool.eq_false_iff]; intro h; apply ho2
            exact toList_inj.1 ((by simpa using h : os.toList = []).trans (by rw [ByteArray.toList_eq]))
          clear ho2
          go_wp2_with fail
          refine (refquoted_any ⟨#[111, 112, 97, 113, 117, 101]⟩ os _ (by decide) ho h7).mono ?_
          rintro e w3 ⟨rfl, hb3⟩
          have Y1 := Lib.hid (Z0.out.below hb3)
          clear hb3
          have NQ1 := Lib.hid (nq_str' ⟨#[111, 112, 97, 113, 117, 101]⟩ os)
          have NS1 := Lib.hid (nq_size' ⟨#[111, 112, 97, 113, 117, 101]⟩ os (by decide) ho)
          generalize (⟨#[111, 112, 97, 113, 117, 101]⟩ : ByteArray) ++ ⟨#[61]⟩ ++ strOfNums (quoteL (byteL os)) = q1 at *
          go_wp2_with (with_reducible refine wpList_pushS rfl (.tmp 62) (.tmp 66) rfl _ _ rfl Y1.out.t q1 rfl ?hbd1 ?_)
          case hbd1 => omega
          intro v1 w4 L1 E1 l1 M1
          have Z1 := Lib.hid (Y1.out.push E1.out M1.out NQ1.out NS1.out)
          rw [show byteL ⟨#[111, 112, 97, 113, 117, 101]⟩ = OPAQUE from rfl] at Z1
          clear M1 E1 NQ1 NS1
          obtain ⟨A9, k9, hx9, _, hrd9⟩ := Z1.out.t.rds
          rw [hx9]
          have RD := Lib.hid hrd9
          have JL := joinL_len [44, 32] 9000000 (L1.map byteL) (fun p hp => by
            obtain ⟨z, hz, rfl⟩ := List.mem_map.1 hp
            rw [byteL_len]
            exact Z1.out.z z hz)
          rw [List.length_map] at JL
          have jl9 : (strOfNums (joinL [44, 32] (L1.map byteL))).size ≤ 1000000000 := by
            rw [num_size]
            have h3 : L1.length * (9000000 + [44, 32].length) ≤ 100 * 9000002 := Nat.mul_le_mul (by omega) (by simp)
            omega
          clear hrd9 JL hx9
          go_wp2_with fail
          refine (joined_any A9 _ k9 L1 _ RD.out (by omega) (by omega) Z1.out.z).mono ?_
          rintro e w9 ⟨rfl, rfl⟩
          go_wp2_with fail
          go_ret2
          exact ⟨by
            rw [E.out, Z1.out.e]
            unfold partsCr
            simp only [OE.out, List.append_nil]
            rfl, bthen BF.out Z1.out.t.bw⟩
end Go.Proofs.YtfhbpgickkibmaaGreatDoor
