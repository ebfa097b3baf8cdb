/- Contract: the reference 07's PrintChallenge. -/
import Derived.Test.YtfhbpgickkibmaaDoorDc
namespace Go.Proofs.YtfhbpgickkibmaaDoor
open Go.RowKit

theorem VX.new (w : World) (T : TypeId) (n : Nat) (cs : List Value) (hn : cs.length = n) (hb : n ≤ 16777216) : VX T 1 w (.slice (some ⟨w.heap.size, 0, none⟩) n n) n cs (w.alloc (.cells cs.toArray T)) :=
  ⟨⟨by omega, .inr ⟨w.heap.size, n, cs.toArray, rfl, Nat.le_refl _, Row.new w T cs, Nat.le_refl _, by unfold maxLen; omega, by simp [hn], by rw [Nat.mul_one, ← hn]; simp⟩⟩, (Below.refl _ _).alloc (Nat.le_refl _) _⟩
/-- The parts printed so far. -/
structure PM (w1 : World) (x : Value) (zs : List ByteArray) (P : List (List Int)) (wr : World) : Prop where
  t : TX w1 x zs wr
  e : zs.map byteL = P
  z : ∀ z ∈ zs, z.size ≤ 9000000
theorem PM.two (w1 : World) (a b : ByteArray) (ha : a.size ≤ 9000000) (hb : b.size ≤ 9000000) : PM w1 (.slice (some ⟨w1.heap.size, 0, none⟩) 2 2) [a, b] [byteL a, byteL b] (w1.alloc (.cells #[.string a, .string b] 9)) :=
  ⟨VX.new w1 9 2 [.string a, .string b] rfl (by decide), rfl, fun z hz => by
    simp only [List.mem_cons, List.not_mem_nil, or_false] at hz
    rcases hz with rfl | rfl <;> assumption⟩
theorem PM.below {w1 : World} {x : Value} {zs : List ByteArray} {P : List (List Int)} {wr w' : World} (h : PM w1 x zs P wr) (hb : Below wr.heap.size wr w') : PM w1 x zs P w' := ⟨h.t.step hb, h.e, h.z⟩
theorem PM.push {w1 : World} {x : Value} {zs L : List ByteArray} {P : List (List Int)} {wr w' : World} {v : Value} {p : ByteArray} {q : List Int} (h : PM w1 x zs P wr) (hL : L = zs ++ [p]) (ht : TX w1 v L w') (hq : byteL p = q) (hp : p.size ≤ 9000000) : PM w1 v L (P ++ [q]) w' := by
  subst hL
  refine ⟨ht, by rw [List.map_append, h.e, ← hq]; rfl, fun z hz => ?_⟩
  rcases List.mem_append.1 hz with h1 | h1
  · exact h.z z h1
  · rw [List.mem_singleton] at h1; subst h1; exact hp
theorem nq_str (nm : ByteArray) (x : ByteArray) : byteL (nm ++ ⟨#[61]⟩ ++ strOfNums (quoteL (byteL x))) = nq (byteL nm) (byteL x) := by
  rw [byteL_app, byteL_app, byteL_str (quoteL_by (byteL_by x))]; rfl
theorem nq_size (nm : ByteArray) (x : ByteArray) (h1 : nm.size ≤ 100) (h2 : x.size ≤ 4000000) : (nm ++ ⟨#[61]⟩ ++ strOfNums (quoteL (byteL x))).size ≤ 9000000 := by
  have h := quoteL_len (byteL x)
  rw [byteL_len] at h
  rw [ByteArray.size_append, ByteArray.size_append, num_size]
  show _ + 1 + _ ≤ _
  omega
set_option maxRecDepth 100000 in
set_option maxHeartbeats 2000000 in
theorem refprintch_any (rs ns os : ByteArray) (i s : Bool) (w : World) (hr : rs.size ≤ 4000000) (hn : ns.size ≤ 4000000) (ho : os.size ≤ 4000000) :
    Calls Tryd.prog 8 #[.agg #[.string rs, .string ns, .string os, .bool i, .bool s]] w fun e w' => e = .returned (prV (printCh ⟨byteL rs, byteL ns, byteL os, i, s⟩)) ∧ Below w.heap.size w w' := by
  have PN := Lib.hid (fun (h : ¬ (clean (byteL rs) = true ∧ clean (byteL ns) = true ∧ clean (byteL os) = true)) => show printCh ⟨byteL rs, byteL ns, byteL os, i, s⟩ = none from if_neg h)
  have PY := Lib.hid (fun (h : clean (byteL rs) = true ∧ clean (byteL ns) = true ∧ clean (byteL os) = true) => show printCh ⟨byteL rs, byteL ns, byteL os, i, s⟩ = some (partsCh ⟨byteL rs, byteL ns, byteL os, i, s⟩) from if_pos h)
  generalize hP : printCh ⟨byteL rs, byteL ns, byteL os, i, s⟩ = PP at *
  clear hP
  have RB := Lib.hid (Row.new w 23 [.string rs, .string ns, .string os, .bool i, .bool s])
  have B0 := Lib.hid ((Below.refl w.heap.size w).alloc (Nat.le_refl _) (.cells #[.string rs, .string ns, .string os, .bool i, .bool s] 23))
  have N2 := Lib.hid (rds_new (w.alloc (.cells #[.string rs, .string ns, .string os, .bool i, .bool s] 23)) 9 [.string rs, .string ns, .string os])
  have BN := Lib.hid ((Below.refl (w.alloc (.cells #[.string rs, .string ns, .string os, .bool i, .bool s] 23)).heap.size (w.alloc (.cells #[.string rs, .string ns, .string os, .bool i, .bool s] 23))).alloc (Nat.le_refl _) (.cells #[.string rs, .string ns, .string os] 9))
  go_enter Tryd.func8, Tryd.ntmps8
  obtain ⟨c0, c1, c2, c3, c4⟩ := RB.out.five
  have N3 := N2
  rw [show (w.alloc (.cells #[.string rs, .string ns, .string os, .bool i, .bool s] 23)).heap.size = w.heap.size + 1 by simp] at N3
  go_wp2_with fail
  refine (refplain_any _ 3 3 [rs, ns, os] _ N3.out rfl (by decide) (by
    intro z hz
    simp at hz
    rcases hz with rfl | rfl | rfl <;> assumption)).mono ?_
  rintro e w1 ⟨rfl, rfl⟩
  have R1 := Lib.hid (RB.out.below BN.out)
  have B1 := Lib.hid (bthen B0.out BN.out)
  clear N2 N3 BN B0 RB c0 c1 c2 c3 c4
  generalize (w.alloc (.cells #[.string rs, .string ns, .string os, .bool i, .bool s] 23)).alloc (.cells #[.string rs, .string ns, .string os] 9) = W at *
  obtain ⟨c0, c1, c2, c3, c4⟩ := R1.out.five
  by_cases hcl : clean (byteL rs) = true ∧ clean (byteL ns) = true ∧ clean (byteL os) = true
  · have E := Lib.hid (PY.out hcl)
    rw [show cleanZ [rs, ns, os] = true by unfold cleanZ; simp [hcl.1, hcl.2.1, hcl.2.2]]
    obtain ⟨h1, h2, h3⟩ := hcl
    go_wp2_with fail
    have BB := Lib.hid (show Below W.heap.size W W.drew from ⟨rfl, rfl, rfl, Nat.le_refl _, fun _ _ => rfl⟩)
    go_region_held3 (fun w' => w'.cell? ⟨w.heap.size, 0, none⟩ = some (.string rs) ∧ w'.cell? ⟨w.heap.size, 1, none⟩ = some (.string ns)) (first | exact ⟨(R1.out.below BB.out).cell 0, (R1.out.below BB.out).cell 1⟩ | go_keep) (first | (go_at_call 28; refine (refquoted_any _ _ _ (by decide) (by assumption) (by assumption)).mono ?_; rintro e w1 ⟨rfl, hb1⟩; replace BB := Lib.hid (bthen BB.out hb1); clear hb1))
    -- TAIL
    have NQA := Lib.hid (nq_str ⟨#[114, 101, 97, 108, 109]⟩ rs)
    have NSA := Lib.hid (nq_size ⟨#[114, 101, 97, 108, 109]⟩ rs (by decide) hr)
    generalize (⟨#[114, 101, 97, 108, 109]⟩ : ByteArray) ++ ⟨#[61]⟩ ++ strOfNums (quoteL (byteL rs)) = qa at *
    have NQB := Lib.hid (nq_str ⟨#[110, 111, 110, 99, 101]⟩ ns)
    have NSB := Lib.hid (nq_size ⟨#[110, 111, 110, 99, 101]⟩ ns (by decide) hn)
    generalize (⟨#[110, 111, 110, 99, 101]⟩ : ByteArray) ++ ⟨#[61]⟩ ++ strOfNums (quoteL (byteL ns)) = qb at *
    have Z0 := Lib.hid (PM.two w1 qa qb NSA.out NSB.out)
    rw [NQA.out, NQB.out, show byteL ⟨#[114, 101, 97, 108, 109]⟩ = REALM from rfl, show byteL ⟨#[110, 111, 110, 99, 101]⟩ = NONCE from rfl] at Z0
    clear NQA NQB NSA NSB
    have HR := Lib.hid (fun (w2 : World) (h : Below w1.heap.size w1 w2) => (R1.out.below (bthen BB.out h)).five)
    have BF := Lib.hid (bthen B1.out BB.out)
    clear c0 c1 c2 c3 c4 h1 h2
    generalize hZZ : [qa, qb] = ZS at Z0
    have zl : ZS.length ≤ 2 := by rw [← hZZ]; exact Nat.le_refl _
    clear hZZ
    generalize w1.alloc (.cells #[.string qa, .string qb] 9) = W2 at *
    generalize Value.slice (some ⟨w1.heap.size, 0, none⟩) 2 2 = X0 at *
    obtain ⟨c0, c1, c2, c3, c4⟩ := HR.out _ Z0.out.t.bw
    by_cases ho2 : os = ⟨#[]⟩
    · have OE := Lib.hid (fun (A B : List (List Int)) => show (if byteL os = [] then A else B) = A from if_pos ((byteL_empty os).2 ho2))
      subst ho2
      go_wp2_with (with_reducible refine wpList_pushS rfl (.tmp 30) (.tmp 31) rfl _ _ rfl Z0.out.t ⟨#[97, 108, 103, 111, 114, 105, 116, 104, 109, 61, 83, 72, 65, 45, 50, 53, 54]⟩ rfl ?hbd1 ?_)
      case hbd1 => omega
      intro v1 w4 L1 E1 l1 M1
      have Z1 := Lib.hid (Z0.out.push E1.out M1.out (show byteL ⟨#[97, 108, 103, 111, 114, 105, 116, 104, 109, 61, 83, 72, 65, 45, 50, 53, 54]⟩ = ALGP from rfl) (by decide))
      obtain ⟨c0, c1, c2, c3, c4⟩ := HR.out _ Z1.out.t.bw
      clear M1 E1
      cases i with
      | true =>
        go_wp2_with fail
        refine (refquoted_any ⟨#[113, 111, 112]⟩ ⟨#[97, 117, 116, 104, 44, 97, 117, 116, 104, 45, 105, 110, 116]⟩ _ (by decide) (by decide) (by rfl)).mono ?_
        rintro e w3 ⟨rfl, hb3⟩
        have Y2 := Lib.hid (Z1.out.below hb3)
        obtain ⟨c0, c1, c2, c3, c4⟩ := HR.out _ Y2.out.t.bw
        clear hb3
        have NQ2 := Lib.hid (nq_str ⟨#[113, 111, 112]⟩ ⟨#[97, 117, 116, 104, 44, 97, 117, 116, 104, 45, 105, 110, 116]⟩)
        have NS2 := Lib.hid (nq_size ⟨#[113, 111, 112]⟩ ⟨#[97, 117, 116, 104, 44, 97, 117, 116, 104, 45, 105, 110, 116]⟩ (by decide) (by decide))
        generalize (⟨#[113, 111, 112]⟩ : ByteArray) ++ ⟨#[61]⟩ ++ strOfNums (quoteL (byteL ⟨#[97, 117, 116, 104, 44, 97, 117, 116, 104, 45, 105, 110, 116]⟩)) = q2 at *
        go_wp2_with (with_reducible refine wpList_pushS rfl (.tmp 35) (.tmp 37) rfl _ _ rfl Y2.out.t q2 rfl ?hbd2 ?_)
        case hbd2 => omega
        intro v2 w5 L2 E2 l2 M2
        have Z2 := Lib.hid (Y2.out.push E2.out M2.out NQ2.out NS2.out)
        rw [show byteL ⟨#[113, 111, 112]⟩ = QOP from rfl, show byteL ⟨#[97, 117, 116, 104, 44, 97, 117, 116, 104, 45, 105, 110, 116]⟩ = BOTH from rfl] at Z2
        obtain ⟨c0, c1, c2, c3, c4⟩ := HR.out _ Z2.out.t.bw
        clear M2 E2 NQ2 NS2
        cases s with
        | true =>
          go_wp2_with (with_reducible refine wpList_pushS rfl (.tmp 45) (.tmp 46) rfl _ _ rfl Z2.out.t ⟨#[115, 116, 97, 108, 101, 61, 116, 114, 117, 101]⟩ rfl ?hbd3 ?_)
          case hbd3 => omega
          intro v3 w6 L3 E3 l3 M3
          have Z3 := Lib.hid (Z2.out.push E3.out M3.out (show byteL ⟨#[115, 116, 97, 108, 101, 61, 116, 114, 117, 101]⟩ = STALEP from rfl) (by decide))
          obtain ⟨c0, c1, c2, c3, c4⟩ := HR.out _ Z3.out.t.bw
          clear M3 E3
          obtain ⟨A9, k9, hx9, _, hrd9⟩ := Z3.out.t.rds
          rw [hx9]
          have RD := Lib.hid hrd9
          have JL := joinL_len [44, 32] 9000000 (L3.map byteL) (fun p hp => by
            obtain ⟨z, hz, rfl⟩ := List.mem_map.1 hp
            rw [byteL_len]
            exact Z3.out.z z hz)
          rw [List.length_map] at JL
          have jl9 : (strOfNums (joinL [44, 32] (L3.map byteL))).size ≤ 1000000000 := by
            rw [num_size]
            have h3 : L3.length * (9000000 + [44, 32].length) ≤ 100 * 9000002 := Nat.mul_le_mul (by omega) (by simp)
            omega
          clear hrd9 JL hx9
          go_wp2_with fail
          refine (joined_any A9 _ k9 L3 _ RD.out (by omega) (by omega) Z3.out.z).mono ?_
          rintro e w9 ⟨rfl, rfl⟩
          go_wp2_with fail
          go_ret2
          exact ⟨by
            rw [E.out, Z3.out.e]
            unfold partsCh
            simp only [OE.out, Bool.false_eq_true, ↓reduceIte, List.append_nil]
            rfl, bthen BF.out Z3.out.t.bw⟩
        | false =>
          obtain ⟨A9, k9, hx9, _, hrd9⟩ := Z2.out.t.rds
          rw [hx9]
          have RD := Lib.hid hrd9
          have JL := joinL_len [44, 32] 9000000 (L2.map byteL) (fun p hp => by
            obtain ⟨z, hz, rfl⟩ := List.mem_map.1 hp
            rw [byteL_len]
            exact Z2.out.z z hz)
          rw [List.length_map] at JL
          have jl9 : (strOfNums (joinL [44, 32] (L2.map byteL))).size ≤ 1000000000 := by
            rw [num_size]
            have h3 : L2.length * (9000000 + [44, 32].length) ≤ 100 * 9000002 := Nat.mul_le_mul (by omega) (by simp)
            omega
          clear hrd9 JL hx9
          go_wp2_with fail
          refine (joined_any A9 _ k9 L2 _ RD.out (by omega) (by omega) Z2.out.z).mono ?_
          rintro e w9 ⟨rfl, rfl⟩
          go_wp2_with fail
          go_ret2
          exact ⟨by
            rw [E.out, Z2.out.e]
            unfold partsCh
            simp only [OE.out, Bool.false_eq_true, ↓reduceIte, List.append_nil]
            rfl, bthen BF.out Z2.out.t.bw⟩
      | false =>
        go_wp2_with fail
        refine (refquoted_any ⟨#[113, 111, 112]⟩ ⟨#[97, 117, 116, 104]⟩ _ (by decide) (by decide) (by rfl)).mono ?_
        rintro e w3 ⟨rfl, hb3⟩
        have Y2 := Lib.hid (Z1.out.below hb3)
        obtain ⟨c0, c1, c2, c3, c4⟩ := HR.out _ Y2.out.t.bw
        clear hb3
        have NQ2 := Lib.hid (nq_str ⟨#[113, 111, 112]⟩ ⟨#[97, 117, 116, 104]⟩)
        have NS2 := Lib.hid (nq_size ⟨#[113, 111, 112]⟩ ⟨#[97, 117, 116, 104]⟩ (by decide) (by decide))
        generalize (⟨#[113, 111, 112]⟩ : ByteArray) ++ ⟨#[61]⟩ ++ strOfNums (quoteL (byteL ⟨#[97, 117, 116, 104]⟩)) = q2 at *
        go_wp2_with (with_reducible refine wpList_pushS rfl (.tmp 39) (.tmp 41) rfl _ _ rfl Y2.out.t q2 rfl ?hbd2 ?_)
        case hbd2 => omega
        intro v2 w5 L2 E2 l2 M2
        have Z2 := Lib.hid (Y2.out.push E2.out M2.out NQ2.out NS2.out)
        rw [show byteL ⟨#[113, 111, 112]⟩ = QOP from rfl, show byteL ⟨#[97, 117, 116, 104]⟩ = AUTH from rfl] at Z2
        obtain ⟨c0, c1, c2, c3, c4⟩ := HR.out _ Z2.out.t.bw
        clear M2 E2 NQ2 NS2
        cases s with
        | true =>
          go_wp2_with (with_reducible refine wpList_pushS rfl (.tmp 45) (.tmp 46) rfl _ _ rfl Z2.out.t ⟨#[115, 116, 97, 108, 101, 61, 116, 114, 117, 101]⟩ rfl ?hbd3 ?_)
          case hbd3 => omega
          intro v3 w6 L3 E3 l3 M3
          have Z3 := Lib.hid (Z2.out.push E3.out M3.out (show byteL ⟨#[115, 116, 97, 108, 101, 61, 116, 114, 117, 101]⟩ = STALEP from rfl) (by decide))
          obtain ⟨c0, c1, c2, c3, c4⟩ := HR.out _ Z3.out.t.bw
          clear M3 E3
          obtain ⟨A9, k9, hx9, _, hrd9⟩ := Z3.out.t.rds
          rw [hx9]
          have RD := Lib.hid hrd9
          have JL := joinL_len [44, 32] 9000000 (L3.map byteL) (fun p hp => by
            obtain ⟨z, hz, rfl⟩ := List.mem_map.1 hp
            rw [byteL_len]
            exact Z3.out.z z hz)
          rw [List.length_map] at JL
          have jl9 : (strOfNums (joinL [44, 32] (L3.map byteL))).size ≤ 1000000000 := by
            rw [num_size]
            have h3 : L3.length * (9000000 + [44, 32].length) ≤ 100 * 9000002 := Nat.mul_le_mul (by omega) (by simp)
            omega
          clear hrd9 JL hx9
          go_wp2_with fail
          refine (joined_any A9 _ k9 L3 _ RD.out (by omega) (by omega) Z3.out.z).mono ?_
          rintro e w9 ⟨rfl, rfl⟩
          go_wp2_with fail
          go_ret2
          exact ⟨by
            rw [E.out, Z3.out.e]
            unfold partsCh
            simp only [OE.out, Bool.false_eq_true, ↓reduceIte, List.append_nil]
            rfl, bthen BF.out Z3.out.t.bw⟩
        | false =>
          obtain ⟨A9, k9, hx9, _, hrd9⟩ := Z2.out.t.rds
          rw [hx9]
          have RD := Lib.hid hrd9
          have JL := joinL_len [44, 32] 9000000 (L2.map byteL) (fun p hp => by
            obtain ⟨z, hz, rfl⟩ := List.mem_map.1 hp
            rw [byteL_len]
            exact Z2.out.z z hz)
          rw [List.length_map] at JL
          have jl9 : (strOfNums (joinL [44, 32] (L2.map byteL))).size ≤ 1000000000 := by
            rw [num_size]
            have h3 : L2.length * (9000000 + [44, 32].length) ≤ 100 * 9000002 := Nat.mul_le_mul (by omega) (by simp)
            omega
          clear hrd9 JL hx9
          go_wp2_with fail
          refine (joined_any A9 _ k9 L2 _ RD.out (by omega) (by omega) Z2.out.z).mono ?_
          rintro e w9 ⟨rfl, rfl⟩
          go_wp2_with fail
          go_ret2
          exact ⟨by
            rw [E.out, Z2.out.e]
            unfold partsCh
            simp only [OE.out, Bool.false_eq_true, ↓reduceIte, List.append_nil]
            rfl, bthen BF.out Z2.out.t.bw⟩
    · have OE := Lib.hid (fun (A B : List (List Int)) => show (if byteL os = [] then A else B) = B from if_neg (fun h => ho2 ((byteL_empty os).1 h)))
      have ob : (os.toList == ([] : List UInt8)) = false := by
        rw [Bool.eq_false_iff]; intro h; apply ho2
        exact toList_inj.1 ((by simpa using h : os.toList = []).trans (by rw [ByteArray.toList_eq]))
      clear ho2
      go_wp2_with fail
      refine (refquoted_any ⟨#[111, 112, 97, 113, 117, 101]⟩ os _ (by decide) ho h3).mono ?_
      rintro e w3 ⟨rfl, hb3⟩
      have Y1 := Lib.hid (Z0.out.below hb3)
      obtain ⟨c0, c1, c2, c3, c4⟩ := HR.out _ Y1.out.t.bw
      clear hb3
      have NQ1 := Lib.hid (nq_str ⟨#[111, 112, 97, 113, 117, 101]⟩ os)
      have NS1 := Lib.hid (nq_size ⟨#[111, 112, 97, 113, 117, 101]⟩ os (by decide) ho)
      generalize (⟨#[111, 112, 97, 113, 117, 101]⟩ : ByteArray) ++ ⟨#[61]⟩ ++ strOfNums (quoteL (byteL os)) = q1 at *
      go_wp2_with (with_reducible refine wpList_pushS rfl (.tmp 24) (.tmp 28) rfl _ _ rfl Y1.out.t q1 rfl ?hbd1 ?_)
      case hbd1 => omega
      intro v1 w4 L1 E1 l1 M1
      have Z1 := Lib.hid (Y1.out.push E1.out M1.out NQ1.out NS1.out)
      rw [show byteL ⟨#[111, 112, 97, 113, 117, 101]⟩ = OPAQUE from rfl] at Z1
      obtain ⟨c0, c1, c2, c3, c4⟩ := HR.out _ Z1.out.t.bw
      clear M1 E1 NQ1 NS1
      go_wp2_with (with_reducible refine wpList_pushS rfl (.tmp 30) (.tmp 31) rfl _ _ rfl Z1.out.t ⟨#[97, 108, 103, 111, 114, 105, 116, 104, 109, 61, 83, 72, 65, 45, 50, 53, 54]⟩ rfl ?hbd2 ?_)
      case hbd2 => omega
      intro v2 w5 L2 E2 l2 M2
      have Z2 := Lib.hid (Z1.out.push E2.out M2.out (show byteL ⟨#[97, 108, 103, 111, 114, 105, 116, 104, 109, 61, 83, 72, 65, 45, 50, 53, 54]⟩ = ALGP from rfl) (by decide))
      obtain ⟨c0, c1, c2, c3, c4⟩ := HR.out _ Z2.out.t.bw
      clear M2 E2
      cases i with
      | true =>
        go_wp2_with fail
        refine (refquoted_any ⟨#[113, 111, 112]⟩ ⟨#[97, 117, 116, 104, 44, 97, 117, 116, 104, 45, 105, 110, 116]⟩ _ (by decide) (by decide) (by rfl)).mono ?_
        rintro e w3 ⟨rfl, hb3⟩
        have Y3 := Lib.hid (Z2.out.below hb3)
        obtain ⟨c0, c1, c2, c3, c4⟩ := HR.out _ Y3.out.t.bw
        clear hb3
        have NQ3 := Lib.hid (nq_str ⟨#[113, 111, 112]⟩ ⟨#[97, 117, 116, 104, 44, 97, 117, 116, 104, 45, 105, 110, 116]⟩)
        have NS3 := Lib.hid (nq_size ⟨#[113, 111, 112]⟩ ⟨#[97, 117, 116, 104, 44, 97, 117, 116, 104, 45, 105, 110, 116]⟩ (by decide) (by decide))
        generalize (⟨#[113, 111, 112]⟩ : ByteArray) ++ ⟨#[61]⟩ ++ strOfNums (quoteL (byteL ⟨#[97, 117, 116, 104, 44, 97, 117, 116, 104, 45, 105, 110, 116]⟩)) = q3 at *
        go_wp2_with (with_reducible refine wpList_pushS rfl (.tmp 35) (.tmp 37) rfl _ _ rfl Y3.out.t q3 rfl ?hbd3 ?_)
        case hbd3 => omega
        intro v3 w6 L3 E3 l3 M3
        have Z3 := Lib.hid (Y3.out.push E3.out M3.out NQ3.out NS3.out)
        rw [show byteL ⟨#[113, 111, 112]⟩ = QOP from rfl, show byteL ⟨#[97, 117, 116, 104, 44, 97, 117, 116, 104, 45, 105, 110, 116]⟩ = BOTH from rfl] at Z3
        obtain ⟨c0, c1, c2, c3, c4⟩ := HR.out _ Z3.out.t.bw
        clear M3 E3 NQ3 NS3
        cases s with
        | true =>
          go_wp2_with (with_reducible refine wpList_pushS rfl (.tmp 45) (.tmp 46) rfl _ _ rfl Z3.out.t ⟨#[115, 116, 97, 108, 101, 61, 116, 114, 117, 101]⟩ rfl ?hbd4 ?_)
          case hbd4 => omega
          intro v4 w7 L4 E4 l4 M4
          have Z4 := Lib.hid (Z3.out.push E4.out M4.out (show byteL ⟨#[115, 116, 97, 108, 101, 61, 116, 114, 117, 101]⟩ = STALEP from rfl) (by decide))
          obtain ⟨c0, c1, c2, c3, c4⟩ := HR.out _ Z4.out.t.bw
          clear M4 E4
          obtain ⟨A9, k9, hx9, _, hrd9⟩ := Z4.out.t.rds
          rw [hx9]
          have RD := Lib.hid hrd9
          have JL := joinL_len [44, 32] 9000000 (L4.map byteL) (fun p hp => by
            obtain ⟨z, hz, rfl⟩ := List.mem_map.1 hp
            rw [byteL_len]
            exact Z4.out.z z hz)
          rw [List.length_map] at JL
          have jl9 : (strOfNums (joinL [44, 32] (L4.map byteL))).size ≤ 1000000000 := by
            rw [num_size]
            have h3 : L4.length * (9000000 + [44, 32].length) ≤ 100 * 9000002 := Nat.mul_le_mul (by omega) (by simp)
            omega
          clear hrd9 JL hx9
          go_wp2_with fail
          refine (joined_any A9 _ k9 L4 _ RD.out (by omega) (by omega) Z4.out.z).mono ?_
          rintro e w9 ⟨rfl, rfl⟩
          go_wp2_with fail
          go_ret2
          exact ⟨by
            rw [E.out, Z4.out.e]
            unfold partsCh
            simp only [OE.out, Bool.false_eq_true, ↓reduceIte, List.append_nil]
            rfl, bthen BF.out Z4.out.t.bw⟩
        | false =>
          obtain ⟨A9, k9, hx9, _, hrd9⟩ := Z3.out.t.rds
          rw [hx9]
          have RD := Lib.hid hrd9
          have JL := joinL_len [44, 32] 9000000 (L3.map byteL) (fun p hp => by
            obtain ⟨z, hz, rfl⟩ := List.mem_map.1 hp
            rw [byteL_len]
            exact Z3.out.z z hz)
          rw [List.length_map] at JL
          have jl9 : (strOfNums (joinL [44, 32] (L3.map byteL))).size ≤ 1000000000 := by
            rw [num_size]
            have h3 : L3.length * (9000000 + [44, 32].length) ≤ 100 * 9000002 := Nat.mul_le_mul (by omega) (by simp)
            omega
          clear hrd9 JL hx9
          go_wp2_with fail
          refine (joined_any A9 _ k9 L3 _ RD.out (by omega) (by omega) Z3.out.z).mono ?_
          rintro e w9 ⟨rfl, rfl⟩
          go_wp2_with fail
          go_ret2
          exact ⟨by
            rw [E.out, Z3.out.e]
            unfold partsCh
            simp only [OE.out, Bool.false_eq_true, ↓reduceIte, List.append_nil]
            rfl, bthen BF.out Z3.out.t.bw⟩
      | false =>
        go_wp2_with fail
        refine (refquoted_any ⟨#[113, 111, 112]⟩ ⟨#[97, 117, 116, 104]⟩ _ (by decide) (by decide) (by rfl)).mono ?_
        rintro e w3 ⟨rfl, hb3⟩
        have Y3 := Lib.hid (Z2.out.below hb3)
        obtain ⟨c0, c1, c2, c3, c4⟩ := HR.out _ Y3.out.t.bw
        clear hb3
        have NQ3 := Lib.hid (nq_str ⟨#[113, 111, 112]⟩ ⟨#[97, 117, 116, 104]⟩)
        have NS3 := Lib.hid (nq_size ⟨#[113, 111, 112]⟩ ⟨#[97, 117, 116, 104]⟩ (by decide) (by decide))
        generalize (⟨#[113, 111, 112]⟩ : ByteArray) ++ ⟨#[61]⟩ ++ strOfNums (quoteL (byteL ⟨#[97, 117, 116, 104]⟩)) = q3 at *
        go_wp2_with (with_reducible refine wpList_pushS rfl (.tmp 39) (.tmp 41) rfl _ _ rfl Y3.out.t q3 rfl ?hbd3 ?_)
        case hbd3 => omega
        intro v3 w6 L3 E3 l3 M3
        have Z3 := Lib.hid (Y3.out.push E3.out M3.out NQ3.out NS3.out)
        rw [show byteL ⟨#[113, 111, 112]⟩ = QOP from rfl, show byteL ⟨#[97, 117, 116, 104]⟩ = AUTH from rfl] at Z3
        obtain ⟨c0, c1, c2, c3, c4⟩ := HR.out _ Z3.out.t.bw
        clear M3 E3 NQ3 NS3
        cases s with
        | true =>
          go_wp2_with (with_reducible refine wpList_pushS rfl (.tmp 45) (.tmp 46) rfl _ _ rfl Z3.out.t ⟨#[115, 116, 97, 108, 101, 61, 116, 114, 117, 101]⟩ rfl ?hbd4 ?_)
          case hbd4 => omega
          intro v4 w7 L4 E4 l4 M4
          have Z4 := Lib.hid (Z3.out.push E4.out M4.out (show byteL ⟨#[115, 116, 97, 108, 101, 61, 116, 114, 117, 101]⟩ = STALEP from rfl) (by decide))
          obtain ⟨c0, c1, c2, c3, c4⟩ := HR.out _ Z4.out.t.bw
          clear M4 E4
          obtain ⟨A9, k9, hx9, _, hrd9⟩ := Z4.out.t.rds
          rw [hx9]
          have RD := Lib.hid hrd9
          have JL := joinL_len [44, 32] 9000000 (L4.map byteL) (fun p hp => by
            obtain ⟨z, hz, rfl⟩ := List.mem_map.1 hp
            rw [byteL_len]
            exact Z4.out.z z hz)
          rw [List.length_map] at JL
          have jl9 : (strOfNums (joinL [44, 32] (L4.map byteL))).size ≤ 1000000000 := by
            rw [num_size]
            have h3 : L4.length * (9000000 + [44, 32].length) ≤ 100 * 9000002 := Nat.mul_le_mul (by omega) (by simp)
            omega
          clear hrd9 JL hx9
          go_wp2_with fail
          refine (joined_any A9 _ k9 L4 _ RD.out (by omega) (by omega) Z4.out.z).mono ?_
          rintro e w9 ⟨rfl, rfl⟩
          go_wp2_with fail
          go_ret2
          exact ⟨by
            rw [E.out, Z4.out.e]
            unfold partsCh
            simp only [OE.out, Bool.false_eq_true, ↓reduceIte, List.append_nil]
            rfl, bthen BF.out Z4.out.t.bw⟩
        | false =>
          obtain ⟨A9, k9, hx9, _, hrd9⟩ := Z3.out.t.rds
          rw [hx9]
          have RD := Lib.hid hrd9
          have JL := joinL_len [44, 32] 9000000 (L3.map byteL) (fun p hp => by
            obtain ⟨z, hz, rfl⟩ := List.mem_map.1 hp
            rw [byteL_len]
            exact Z3.out.z z hz)
          rw [List.length_map] at JL
          have jl9 : (strOfNums (joinL [44, 32] (L3.map byteL))).size ≤ 1000000000 := by
            rw [num_size]
            have h3 : L3.length * (9000000 + [44, 32].length) ≤ 100 * 9000002 := Nat.mul_le_mul (by omega) (by simp)
            omega
          clear hrd9 JL hx9
          go_wp2_with fail
          refine (joined_any A9 _ k9 L3 _ RD.out (by omega) (by omega) Z3.out.z).mono ?_
          rintro e w9 ⟨rfl, rfl⟩
          go_wp2_with fail
          go_ret2
          exact ⟨by
            rw [E.out, Z3.out.e]
            unfold partsCh
            simp only [OE.out, Bool.false_eq_true, ↓reduceIte, List.append_nil]
            rfl, bthen BF.out Z3.out.t.bw⟩
  · have E := Lib.hid (PN.out hcl)
    rw [show cleanZ [rs, ns, os] = false by
      unfold cleanZ
      rw [Bool.eq_false_iff]
      intro h
      simp only [List.all_cons, List.all_nil, Bool.and_true, Bool.and_eq_true] at h
      exact hcl h]
    clear hcl
    go_wp2_with fail
    go_ret2
    exact ⟨by rw [E.out]; rfl, B1.out⟩
end Go.Proofs.YtfhbpgickkibmaaDoor
