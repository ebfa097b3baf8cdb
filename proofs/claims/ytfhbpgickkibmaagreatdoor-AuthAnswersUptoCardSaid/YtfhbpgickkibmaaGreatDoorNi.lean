/- The reference's Answer. -/
import Derived.Test.YtfhbpgickkibmaaGreatDoorNh
import Derived.Test.YtfhbpgickkibmaaGreatDoorNg
import Derived.Test.YtfhbpgickkibmaaGreatDoorDn
namespace Go.Proofs.YtfhbpgickkibmaaGreatDoor
open Go.RowKit

theorem undrew {w wb : World} (h : Below w.drew.heap.size w.drew wb) : Below w.heap.size w wb := ⟨h.os, h.tape, h.output, h.size, h.block⟩
theorem unalloc {w wb : World} {o : Obj} (h : Below (w.alloc o).heap.size (w.alloc o) wb) : Below w.heap.size w wb := bthen ((Below.refl _ _).alloc (Nat.le_refl _) o) h
theorem nineZ {w wb : World} (h : Below (w.alloc (.cells Z9.toArray 23)).heap.size (w.alloc (.cells Z9.toArray 23)) wb) : Row wb w.heap.size 23 Z9 := (Row.new w 23 Z9).below h
theorem fr9 {w : World} {b : Nat} {T : TypeId} {vs : List Value} (h : Row w b T vs) : w.frozen? ⟨b, 0, none⟩ = false ∧ w.frozen? ⟨b, 1, none⟩ = false ∧ w.frozen? ⟨b, 2, none⟩ = false ∧ w.frozen? ⟨b, 3, none⟩ = false ∧ w.frozen? ⟨b, 4, none⟩ = false ∧ w.frozen? ⟨b, 5, none⟩ = false ∧ w.frozen? ⟨b, 6, none⟩ = false ∧ w.frozen? ⟨b, 7, none⟩ = false ∧ w.frozen? ⟨b, 8, none⟩ = false :=
  ⟨h.frozen 0, h.frozen 1, h.frozen 2, h.frozen 3, h.frozen 4, h.frozen 5, h.frozen 6, h.frozen 7, h.frozen 8⟩
theorem held4 {w wb : World} {p1 p2 p3 p4 : Addr} {v1 v2 v3 v4 : Value} (c1 : w.cell? p1 = some v1) (c2 : w.cell? p2 = some v2) (c3 : w.cell? p3 = some v3) (c4 : w.cell? p4 = some v4) (hb : Below w.heap.size w wb) :
    (wb.cell? p1 = some v1 ∧ wb.cell? p2 = some v2 ∧ wb.cell? p3 = some v3 ∧ wb.cell? p4 = some v4) ∧ wb.heap.size ≠ p1.block ∧ wb.heap.size ≠ p2.block ∧ wb.heap.size ≠ p3.block ∧ wb.heap.size ≠ p4.block := by
  have k1 := (hb.cell (World.block_lt_of_cell? w p1 c1)).trans c1
  have k2 := (hb.cell (World.block_lt_of_cell? w p2 c2)).trans c2
  have k3 := (hb.cell (World.block_lt_of_cell? w p3 c3)).trans c3
  have k4 := (hb.cell (World.block_lt_of_cell? w p4 c4)).trans c4
  exact ⟨⟨k1, k2, k3, k4⟩, World.new_ne wb p1 k1, World.new_ne wb p2 k2, World.new_ne wb p3 k3, World.new_ne wb p4 k4⟩
set_option maxRecDepth 100000 in
set_option maxHeartbeats 4000000 in
theorem refanswer_any (rs ns os us ars ans ais aps cs aos pw ms uri rsn : ByteArray) (ci cst g : Bool) (k code : Int) (A B : Option Addr) (n c m d : Nat) (l : List (ByteArray × ByteArray)) (bs : List Int) (w : World)
    (hA : Rds w w.heap.size A (hds l)) (hn : l.length = n) (hN : n ≤ 4000000) (hl : ∀ h ∈ l, h.1.size ≤ 4000000 ∧ h.2.size ≤ 4000000) (hb : By bs) (hm : bs.length = m) (hM : m ≤ 16000000) (hB : Bs w w.heap.size B bs) (hnil : B = none → m = 0 ∧ d = 0)
    (s1 : rs.size ≤ 4000000) (s2 : ns.size ≤ 4000000) (s3 : os.size ≤ 4000000) (s4 : us.size ≤ 4000000) (s5 : cs.size ≤ 4000000) (s6 : pw.size ≤ 4000000) (s7 : ms.size ≤ 4000000) (s8 : uri.size ≤ 4000000) :
    Calls Tryz.prog 23 #[.agg #[.string rs, .string ns, .string os, .bool ci, .bool cst], .agg #[.string us, .string ars, .string ans, .string ais, .string aps, .string cs, .string aos, .int .i64 k, .bool g], .string pw, .agg #[.string ms, .string uri, .int .i64 code, .string rsn, .slice A n c, .slice B m d]] w (AnsP ms uri rsn code (byteL rs) l bs (ansL code ci (ansCr (byteL us) (byteL rs) (byteL ns) (byteL uri) (byteL os) (byteL cs) (byteL ms) k g (byteL pw) bs)) w) := by
  have BAD := Lib.hid (fun h => ansL_bad (code := code) (ci := ci) (x := ansCr (byteL us) (byteL rs) (byteL ns) (byteL uri) (byteL os) (byteL cs) (byteL ms) k g (byteL pw) bs) h)
  have NON0 := Lib.hid (fun h => ansL_none (code := code) (ci := ci) (x := ansCr (byteL us) (byteL rs) (byteL ns) (byteL uri) (byteL os) (byteL cs) (byteL ms) k g (byteL pw) bs) h)
  have YES0 := Lib.hid (fun l' h h2 => ansL_some (code := code) (ci := ci) (x := ansCr (byteL us) (byteL rs) (byteL ns) (byteL uri) (byteL os) (byteL cs) (byteL ms) k g (byteL pw) bs) (l := l') h h2)
  have PRE := Lib.hid (show ansCr (byteL us) (byteL rs) (byteL ns) (byteL uri) (byteL os) (byteL cs) (byteL ms) k g (byteL pw) bs = ⟨byteL us, byteL rs, byteL ns, byteL uri, respL (hashL [byteL us, byteL rs, byteL pw]) (byteL ns) k (byteL cs) g (byteL uri) (byteL ms) bs, byteL cs, byteL os, k, g⟩ from rfl)
  have SEB := Lib.hid (hashL_by [byteL us, byteL rs, byteL pw])
  have SEL := Lib.hid (hashL_len [byteL us, byteL rs, byteL pw])
  have SEC := Lib.hid (secret_any us rs pw)
  have REC := Lib.hid (refsecret_any us rs pw)
  have RPB := Lib.hid (respL_by (hashL [byteL us, byteL rs, byteL pw]) (byteL ns) k (byteL cs) g (byteL uri) (byteL ms) bs)
  have RPL := Lib.hid (respL_len (hashL [byteL us, byteL rs, byteL pw]) (byteL ns) k (byteL cs) g (byteL uri) (byteL ms) bs)
  have RSP := Lib.hid (fun (ps : ByteArray) => response_any (strOfNums (hashL [byteL us, byteL rs, byteL pw])) ms us rs ns uri ps cs os k k g B m d bs)
  have RRS := Lib.hid (fun (ps : ByteArray) => refresponse_any (strOfNums (hashL [byteL us, byteL rs, byteL pw])) ms us rs ns uri ps cs os k k g B m d bs)
  rw [byteL_str SEB.out] at RSP RRS
  have PRC := Lib.hid (fun (w : World) => printcr_any us rs ns uri (strOfNums (respL (hashL [byteL us, byteL rs, byteL pw]) (byteL ns) k (byteL cs) g (byteL uri) (byteL ms) bs)) cs os k g w s4 s1 s2 s8 (by rw [num_size, RPL.out]; decide) s5 s3)
  have RPC := Lib.hid (fun (w : World) => refprintcr_any us rs ns uri (strOfNums (respL (hashL [byteL us, byteL rs, byteL pw]) (byteL ns) k (byteL cs) g (byteL uri) (byteL ms) bs)) cs os k g w s4 s1 s2 s8 (by rw [num_size, RPL.out]; decide) s5 s3)
  rw [byteL_str RPB.out, ← PRE.out] at PRC RPC
  clear PRE
  have NON := NON0
  have YES := Lib.hid (fun l' (h : badA code k g ci = false) h2 => YES0.out l' h h2)
  clear NON0 YES0
  generalize hP : printCr (ansCr (byteL us) (byteL rs) (byteL ns) (byteL uri) (byteL os) (byteL cs) (byteL ms) k g (byteL pw) bs) = P at *
  clear hP
  generalize hR : respL (hashL [byteL us, byteL rs, byteL pw]) (byteL ns) k (byteL cs) g (byteL uri) (byteL ms) bs = rp at *
  clear hR
  generalize hSE : hashL [byteL us, byteL rs, byteL pw] = SE at *
  clear hSE
  have HN := Lib.hid hn; have HL := Lib.hid hl; have HBY := Lib.hid hb; have HM := Lib.hid hm; have HNIL := Lib.hid hnil
  clear hn hl hb hm hnil
  generalize hV : ansL code ci (ansCr (byteL us) (byteL rs) (byteL ns) (byteL uri) (byteL os) (byteL cs) (byteL ms) k g (byteL pw) bs) = V at *
  clear hV
  have S1 : (w.alloc (.cells #[.string rs, .string ns, .string os, .bool ci, .bool cst] 36)).heap.size = w.heap.size + 1 := World.size_alloc _ _
  have S2 : ((w.alloc (.cells #[.string rs, .string ns, .string os, .bool ci, .bool cst] 36)).alloc (.cells #[.string us, .string ars, .string ans, .string ais, .string aps, .string cs, .string aos, .int .i64 k, .bool g] 23)).heap.size = w.heap.size + 1 + 1 := by rw [World.size_alloc, S1]
  have S3 : (((w.alloc (.cells #[.string rs, .string ns, .string os, .bool ci, .bool cst] 36)).alloc (.cells #[.string us, .string ars, .string ans, .string ais, .string aps, .string cs, .string aos, .int .i64 k, .bool g] 23)).alloc (.cells #[.string ms, .string uri, .int .i64 code, .string rsn, .slice A n c, .slice B m d] 41)).heap.size = w.heap.size + 1 + 1 + 1 := by rw [World.size_alloc, S2]
  have R4 := Lib.hid (show Row ((((w.alloc (.cells #[.string rs, .string ns, .string os, .bool ci, .bool cst] 36)).alloc (.cells #[.string us, .string ars, .string ans, .string ais, .string aps, .string cs, .string aos, .int .i64 k, .bool g] 23)).alloc (.cells #[.string ms, .string uri, .int .i64 code, .string rsn, .slice A n c, .slice B m d] 41)).alloc (.cells Z6.toArray 41)) w.heap.size 36 [.string rs, .string ns, .string os, .bool ci, .bool cst] from (((Row.new w 36 [.string rs, .string ns, .string os, .bool ci, .bool cst]).alloc _).alloc _).alloc _)
  have R5 := Lib.hid (show Row ((((w.alloc (.cells #[.string rs, .string ns, .string os, .bool ci, .bool cst] 36)).alloc (.cells #[.string us, .string ars, .string ans, .string ais, .string aps, .string cs, .string aos, .int .i64 k, .bool g] 23)).alloc (.cells #[.string ms, .string uri, .int .i64 code, .string rsn, .slice A n c, .slice B m d] 41)).alloc (.cells Z6.toArray 41)) (w.heap.size + 1) 23 [.string us, .string ars, .string ans, .string ais, .string aps, .string cs, .string aos, .int .i64 k, .bool g] by
    have h := Row.new (w.alloc (.cells #[.string rs, .string ns, .string os, .bool ci, .bool cst] 36)) 23 [.string us, .string ars, .string ans, .string ais, .string aps, .string cs, .string aos, .int .i64 k, .bool g]
    rw [S1] at h
    exact (h.alloc _).alloc _)
  have R7 := Lib.hid (show Row ((((w.alloc (.cells #[.string rs, .string ns, .string os, .bool ci, .bool cst] 36)).alloc (.cells #[.string us, .string ars, .string ans, .string ais, .string aps, .string cs, .string aos, .int .i64 k, .bool g] 23)).alloc (.cells #[.string ms, .string uri, .int .i64 code, .string rsn, .slice A n c, .slice B m d] 41)).alloc (.cells Z6.toArray 41)) (w.heap.size + 1 + 1) 41 [.string ms, .string uri, .int .i64 code, .string rsn, .slice A n c, .slice B m d] by
    have h := Row.new ((w.alloc (.cells #[.string rs, .string ns, .string os, .bool ci, .bool cst] 36)).alloc (.cells #[.string us, .string ars, .string ans, .string ais, .string aps, .string cs, .string aos, .int .i64 k, .bool g] 23)) 41 [.string ms, .string uri, .int .i64 code, .string rsn, .slice A n c, .slice B m d]
    rw [S2] at h
    exact h.alloc _)
  have R8 := Lib.hid (show Row ((((w.alloc (.cells #[.string rs, .string ns, .string os, .bool ci, .bool cst] 36)).alloc (.cells #[.string us, .string ars, .string ans, .string ais, .string aps, .string cs, .string aos, .int .i64 k, .bool g] 23)).alloc (.cells #[.string ms, .string uri, .int .i64 code, .string rsn, .slice A n c, .slice B m d] 41)).alloc (.cells Z6.toArray 41)) (w.heap.size + 1 + 1 + 1) 41 Z6 by
    have h := Row.new (((w.alloc (.cells #[.string rs, .string ns, .string os, .bool ci, .bool cst] 36)).alloc (.cells #[.string us, .string ars, .string ans, .string ais, .string aps, .string cs, .string aos, .int .i64 k, .bool g] 23)).alloc (.cells #[.string ms, .string uri, .int .i64 code, .string rsn, .slice A n c, .slice B m d] 41)) 41 Z6
    rw [S3] at h
    exact h)
  have BW0 := Lib.hid (show Below w.heap.size w ((((w.alloc (.cells #[.string rs, .string ns, .string os, .bool ci, .bool cst] 36)).alloc (.cells #[.string us, .string ars, .string ans, .string ais, .string aps, .string cs, .string aos, .int .i64 k, .bool g] 23)).alloc (.cells #[.string ms, .string uri, .int .i64 code, .string rsn, .slice A n c, .slice B m d] 41)).alloc (.cells Z6.toArray 41)) from ((((Below.refl _ _).alloc (Nat.le_refl _) _).alloc (by rw [S1]; omega) _).alloc (by rw [S2]; omega) _).alloc (by rw [S3]; omega) _)
  clear S1 S2 S3
  have c2 := R7.out.six.2.2.1
  have c7 := R5.out.nine.2.2.2.2.2.2.2.1
  have c8 := R5.out.nine.2.2.2.2.2.2.2.2
  have c3 := R4.out.five.2.2.2.1
  rcases (show code ≠ 0 ∨ (code = 0 ∧ k < 1) ∨ (code = 0 ∧ 1 ≤ k ∧ 4294967295 < k) ∨ (code = 0 ∧ 1 ≤ k ∧ k ≤ 4294967295) by omega) with hc | ⟨hc, hk⟩ | ⟨hc, hk, hk2⟩ | ⟨hc, hk, hk2⟩
  · have E := Lib.hid (BAD.out (by unfold badA ansCr; simp [hc]))
    have d0 : (code != 0) = true := by simp [hc]
    clear hc
    go_enter Tryz.func23, Tryz.ntmps23
    go_wp2_with (with_reducible refine wpList_storeR rfl 41 (.tmp 8) (.tmp 39) rfl R8.out Z6 rfl rfl (lenL6 _ _ _ _ _ _ _ _ _ _ _ _) (sizeL6 _ _ _ _ _ _) z6_one BW0.out (by omega) ?_)
    intro w9 R9 B9 _
    go_wp2_with fail
    exact bodyPost_ret (results_ct rfl _ _ _ (w.heap.size + 1 + 1 + 1) Z6 _ rfl R9.out.range Tryz.underlying41 rfl size6) rfl (by exact AnsP.no E.out B9.out)
  · have E := Lib.hid (BAD.out (by unfold badA ansCr; simp [hk]))
    have d0 : (code != 0) = false := by simp [hc]
    have d1 : decide (k < 1) = true := by simp [hk]
    clear hk hc
    go_enter Tryz.func23, Tryz.ntmps23
    go_wp2_with (with_reducible refine wpList_storeR rfl 41 (.tmp 8) (.tmp 39) rfl R8.out Z6 rfl rfl (lenL6 _ _ _ _ _ _ _ _ _ _ _ _) (sizeL6 _ _ _ _ _ _) z6_one BW0.out (by omega) ?_)
    intro w9 R9 B9 _
    go_wp2_with fail
    exact bodyPost_ret (results_ct rfl _ _ _ (w.heap.size + 1 + 1 + 1) Z6 _ rfl R9.out.range Tryz.underlying41 rfl size6) rfl (by exact AnsP.no E.out B9.out)
  · have E := Lib.hid (BAD.out (by unfold badA ansCr; simp [hk2]))
    have d0 : (code != 0) = false := by simp [hc]
    have d1 : decide (k < 1) = false := by simp; omega
    have d2 : decide (4294967295 < k) = true := by simp [hk2]
    clear hk hk2 hc
    go_enter Tryz.func23, Tryz.ntmps23
    go_wp2_with (with_reducible refine wpList_storeR rfl 41 (.tmp 8) (.tmp 39) rfl R8.out Z6 rfl rfl (lenL6 _ _ _ _ _ _ _ _ _ _ _ _) (sizeL6 _ _ _ _ _ _) z6_one BW0.out (by omega) ?_)
    intro w9 R9 B9 _
    go_wp2_with fail
    exact bodyPost_ret (results_ct rfl _ _ _ (w.heap.size + 1 + 1 + 1) Z6 _ rfl R9.out.range Tryz.underlying41 rfl size6) rfl (by exact AnsP.no E.out B9.out)
  · have d0 : (code != 0) = false := by simp [hc]
    have d1 : decide (k < 1) = false := by simp; omega
    have d2 : decide (4294967295 < k) = false := by simp; omega
    have KR := Lib.hid (show k % 4294967296 = k by omega)
    have NB := Lib.hid (fun (h : (g && !ci) = false) => show badA code k g ci = false by
      unfold badA
      rw [d0, d1, d2, h]; rfl)
    have YB := Lib.hid (fun (h : (g && !ci) = true) => show badA code k g ci = true by
      unfold badA
      rw [d0, d1, d2, h]; rfl)
    clear hc
    cases hgc : (g && !ci) with
    | true =>
      have E := Lib.hid (BAD.out (YB.out hgc))
      obtain ⟨rfl, rfl⟩ : g = true ∧ ci = false := by simpa using hgc
      clear hgc
      go_enter Tryz.func23, Tryz.ntmps23
      go_wp2_with (with_reducible refine wpList_storeR rfl 41 (.tmp 8) (.tmp 39) rfl R8.out Z6 rfl rfl (lenL6 _ _ _ _ _ _ _ _ _ _ _ _) (sizeL6 _ _ _ _ _ _) z6_one BW0.out (by omega) ?_)
      intro w9 R9 B9 _
      go_wp2_with fail
      exact bodyPost_ret (results_ct rfl _ _ _ (w.heap.size + 1 + 1 + 1) Z6 _ rfl R9.out.range Tryz.underlying41 rfl size6) rfl (by exact AnsP.no E.out B9.out)
    | false =>
      have NB2 := Lib.hid (NB.out hgc)
      have GG : g = false ∨ (g = true ∧ ci = true) := by
        cases g
        · exact .inl rfl
        · cases ci
          · cases hgc
          · exact .inr ⟨rfl, rfl⟩
      clear hgc NB YB BAD
      go_enter Tryz.func23, Tryz.ntmps23
      have HGG := Lib.hid GG
      clear GG
      go_upto_region 1 with fail
      go_cut [38] (fun v wx => v = .bool false ∧ wx = ((((w.alloc (.cells #[.string rs, .string ns, .string os, .bool ci, .bool cst] 36)).alloc (.cells #[.string us, .string ars, .string ans, .string ais, .string aps, .string cs, .string aos, .int .i64 k, .bool g] 23)).alloc (.cells #[.string ms, .string uri, .int .i64 code, .string rsn, .slice A n c, .slice B m d] 41)).alloc (.cells Z6.toArray 41)))
      case first =>
        rcases HGG.out with rfl | ⟨rfl, rfl⟩
        all_goals
          go_wp2_with fail
          go_meet
          exact ⟨rfl, rfl⟩
      case rest =>
        obtain ⟨rfl, rfl⟩ := hcut
        clear c2 c7 c8 c3 d0 d1 d2 HGG
        generalize (((w.alloc (.cells #[.string rs, .string ns, .string os, .bool ci, .bool cst] 36)).alloc (.cells #[.string us, .string ars, .string ans, .string ais, .string aps, .string cs, .string aos, .int .i64 k, .bool g] 23)).alloc (.cells #[.string ms, .string uri, .int .i64 code, .string rsn, .slice A n c, .slice B m d] 41)).alloc (.cells Z6.toArray 41) = W at *
        obtain ⟨k0, -, -, -, -, k5, -, k7, k8⟩ := R5.out.nine
        obtain ⟨g0, g1, g2, -, -⟩ := R4.out.five
        have m1 := R7.out.six.2.1
        have RN := Lib.hid (Row.new W 23 Z9)
        have BA := Lib.hid (BW0.out.alloc BW0.out.size (.cells Z9.toArray 23))
        have LW := Lib.hid (show w.heap.size + 1 + 1 + 1 < W.heap.size from R8.out.lt)
        have WS := Lib.hid BW0.out.size
        go_wp2_with (with_reducible refine wpList_storeR rfl 23 (.tmp 10) (.tmp 56) rfl RN.out [.string us, .string rs, .string ns, .string uri, .string ⟨#[]⟩, .string cs, .string os, .int .i64 k, .bool g] rfl rfl (lenL9 _ _ _ _ _ _ _ _ _ _ _ _ _ _ _ _ _ _) (sizeL9 _ _ _ _ _ _ _ _ _) (p9_one _ _ _ _ _ _ _ _ _) BA.out WS.out ?_)
        intro W1 Q5 QB HH
        have Q4 := Lib.hid ((R4.out.alloc (.cells Z9.toArray 23)).heap (HH.out.2 _ (by have := LW.out; omega)))
        have Q7 := Lib.hid ((R7.out.alloc (.cells Z9.toArray 23)).heap (HH.out.2 _ (by have := LW.out; omega)))
        have Q8 := Lib.hid ((R8.out.alloc (.cells Z9.toArray 23)).heap (HH.out.2 _ (by have := LW.out; omega)))
        have QR5 := Lib.hid ((R5.out.alloc (.cells Z9.toArray 23)).heap (HH.out.2 _ (by have := LW.out; omega)))
        clear R4 R5 R7 R8 BW0 RN BA k0 k5 k7 k8 g0 g1 g2 m1 HH
        go_wp2_with fail
        have HB1 := Lib.hid ((hB.below QB.out).up QB.out.size)
        have q0 := fun x : BW W1 => QR5.out.later x 0
        have q1 := fun x : BW W1 => Q4.out.later x 0
        have q2 := fun x : BW W1 => Q7.out.later x 0
        have q3 := fun x : BW W1 => Q7.out.later x 5
        simp only [List.getElem?_cons_succ, List.getElem?_cons_zero] at q0 q1 q2 q3
        have z1 : (strOfNums SE).size ≤ 64 := by rw [num_size, SEL.out]; exact Nat.le_refl _
        refine region_bwt 13 (by kernel_rfl) (by kernel_rfl) ?_
        simp only [List.take_succ_cons, List.take_zero, List.drop_succ_cons, List.drop_zero]
        iterate 5 go_big_quiet_step (fail)
        go_big_quiet_step (exact calls_bw (REC.out _ (by omega) (by omega) (by omega)))
        go_big_quiet_want
        refine quiet_load 23 (.tmp 10) rfl W.heap.size rfl _ 23 _ Q5.out Tryz.underlying23 rfl (sizeL9 _ _ _ _ _ _ _ _ _) ?_
        simp only [Act.put, List.setIfInBounds_toArray, List.set_cons_zero, List.set_cons_succ]
        go_big_quiet_on
        iterate 4 go_big_quiet_step (fail)
        go_big_quiet_step (exact calls_bw (RRS.out ⟨#[]⟩ _ HBY.out HM.out ((HB1.out.below (BW.h _)).up (BW.h _).size) KR.out (by omega) (by omega) hM))
        go_big_quiet_step (fail)
        refine wpQuiet_nil ?_
        rintro _ ⟨x, rfl⟩
        clear q0 q1 q2 q3 z1
        obtain ⟨wx, hx⟩ : ∃ wx, wx = x.w := ⟨_, rfl⟩
        have BX := Lib.hid (show Below W1.heap.size W1 wx by rw [hx]; exact x.h)
        rw [← hx]
        clear hx x
        have P5 := Lib.hid (Q5.out.below BX.out)
        have h4 := P5.out.cell 4
        simp only [List.getElem?_cons_succ, List.getElem?_cons_zero] at h4
        have h4f := P5.out.frozen 4
        have Y5 := Lib.hid (show Row (wx.setCell ⟨W.heap.size, 4, none⟩ (.string (strOfNums rp))) W.heap.size 23 [.string us, .string rs, .string ns, .string uri, .string (strOfNums rp), .string cs, .string os, .int .i64 k, .bool g] from P5.out.set 4 (.string (strOfNums rp)))
        have Y4 := Lib.hid (show Row (wx.setCell ⟨W.heap.size, 4, none⟩ (.string (strOfNums rp))) w.heap.size 36 [.string rs, .string ns, .string os, .bool ci, .bool cst] from (Q4.out.below BX.out).setOther (by have := LW.out; omega) _)
        have Y7 := Lib.hid (show Row (wx.setCell ⟨W.heap.size, 4, none⟩ (.string (strOfNums rp))) (w.heap.size + 1 + 1) 41 [.string ms, .string uri, .int .i64 code, .string rsn, .slice A n c, .slice B m d] from (Q7.out.below BX.out).setOther (by have := LW.out; omega) _)
        have Y8 := Lib.hid (show Row (wx.setCell ⟨W.heap.size, 4, none⟩ (.string (strOfNums rp))) (w.heap.size + 1 + 1 + 1) 41 Z6 from (Q8.out.below BX.out).setOther (by have := LW.out; omega) _)
        have YB := Lib.hid (show Below w.heap.size w (wx.setCell ⟨W.heap.size, 4, none⟩ (.string (strOfNums rp))) from (bthen QB.out BX.out).setCell WS.out _)
        clear Q4 Q5 Q7 Q8 QB BX P5 HB1 QR5
        go_wp2_with (with_reducible refine wpList_loadR rfl 23 (.tmp 10) rfl Y5.out rfl Tryz.underlying23 rfl (sizeL9 _ _ _ _ _ _ _ _ _) ?_)
        clear h4 h4f
        generalize wx.setCell ⟨W.heap.size, 4, none⟩ (.string (strOfNums rp)) = W2 at *
        refine (RPC.out _).mono ?_
        rintro e w3 ⟨rfl, hb3⟩
        have R4 := Lib.hid (Y4.out.below hb3)
        have R7 := Lib.hid (Y7.out.below hb3)
        have R8 := Lib.hid (Y8.out.below hb3)
        have BW0 := Lib.hid (bthen YB.out hb3)
        clear hb3 Y4 Y5 Y7 Y8 YB
        cases P with
        | none =>
          have E := Lib.hid (NON.out rfl)
          rw [show prV none = .tuple #[.string ⟨#[]⟩, .int .u8 2] from rfl]
          go_wp2_with (with_reducible refine wpList_storeR rfl 41 (.tmp 8) (.tmp 77) rfl R8.out Z6 rfl rfl (lenL6 _ _ _ _ _ _ _ _ _ _ _ _) (sizeL6 _ _ _ _ _ _) z6_one BW0.out (by omega) ?_)
          intro w9 R9 B9 _
          go_wp2_with fail
          exact bodyPost_ret (results_ct rfl _ _ _ (w.heap.size + 1 + 1 + 1) Z6 _ rfl R9.out.range Tryz.underlying41 rfl size6) rfl (by exact AnsP.no E.out B9.out)
        | some l' =>
          have E := Lib.hid (YES.out l' NB2.out rfl)
          rw [show prV (some l') = .tuple #[.string (strOfNums (DIG ++ joinL [44, 32] l')), .int .u8 0] from rfl]
          clear NON YES PRC RPC SEC REC RSP RRS
          generalize DIG ++ joinL [44, 32] l' = HV at *
          go_wp2_with fail
          have HA3 := Lib.hid (hA.below BW0.out)
          have l3 : w.heap.size + 1 + 1 + 1 < w3.heap.size := R8.out.lt
          have L3 := Lib.hid l3
          have KL := Lib.hid (keepH_len (byteL rs))
          clear l3
          go_loopw [13, 14] (fun v13 v14 wr => ∃ (i : Nat) (x : Value) (L : List (ByteArray × ByteArray)), i ≤ n ∧ x = v13 ∧ v14 = .int .i64 i ∧ L.length ≤ i ∧ Hid (HDX w3 x L wr ∧ L = keepH (byteL rs) (l.take i))) (fun _ v _ => n - (intOf v).toNat)
          case atStart => exact ⟨0, _, [], Nat.zero_le _, rfl, rfl, Nat.le_refl _, Lib.hid ⟨VX.nil _ _ _, rfl⟩⟩
          case round =>
            obtain ⟨i, x, L, hi, rfl, rfl, hLi, H⟩ := hrel
            have HX0 := Lib.hid H.out.1
            have HLE := Lib.hid H.out.2
            clear H
            by_cases hlt : i < n
            · have hd : decide (i < n) = true := by simp [hlt]
              have hd2 : decide ((i : Int) < (n : Int)) = true := by simp; omega
              obtain ⟨p, hp⟩ : ∃ p, l[i]? = some p := ⟨_, List.getElem?_eq_getElem (by rw [HN.out]; exact hlt)⟩
              obtain ⟨x1, o1, rfl, hx1, hc1⟩ := HA3.out (by rw [hds_len, HN.out]; omega)
              have hz := Nat.lt_of_lt_of_le (Nat.lt_trans (Nat.lt_succ_of_lt (Nat.lt_succ_of_lt (Nat.lt_succ_of_lt hx1))) L3.out) HX0.out.bw.size
              have hz3 : x1 < w3.heap.size := by have := L3.out; omega
              have GR := Lib.hid (fun (wq : World) (hq : Below w3.heap.size w3 wq) => show wq.rangeAt x1 (o1 + i * 2) [.string p.1, .string p.2] from fun j v hv => (hq.cell (p := ⟨x1, _, none⟩) hz3).trans (Rds.range (B := 0) hc1 (i * 2) _ (hds_at hp) j v hv))
              obtain ⟨h1, h2⟩ := HL.out p (List.mem_of_getElem? hp)
              have KS := Lib.hid (show keepH (byteL rs) (l.take (i + 1)) = L ++ (if (offL (byteL p.1) (byteL p.2) (byteL rs)).isNone = true then [p] else []) by rw [take_snocH hp, keepH_snoc, ← HLE.out])
              have AUZ := Lib.hid (fun w => authorizes_any p.1 p.2 rs w h1 h2)
              obtain ⟨nm, vl⟩ := p
              dsimp only at GR KS AUZ
              generalize offL (byteL nm) (byteL vl) (byteL rs) = O at *
              clear hc1 hp hz hz3 h1 h2
              have c1 : wr.cell? ⟨w.heap.size + 1 + 1, 4, none⟩ = some (.slice (some ⟨x1, o1, none⟩) n c) := (R7.out.below HX0.out.bw).six.2.2.2.2.1
              have c2 : wr.cell? ⟨x1, o1 + i * 2, none⟩ = some (.string nm) := GR.out wr HX0.out.bw 0 _ rfl
              have c3 : wr.cell? ⟨x1, o1 + i * 2 + 1, none⟩ = some (.string vl) := GR.out wr HX0.out.bw 1 _ rfl
              have c4 : wr.cell? ⟨w.heap.size, 0, none⟩ = some (.string rs) := (R4.out.below HX0.out.bw).cell 0
              have n1 := World.new_ne wr _ c1; have n2 := World.new_ne wr _ c2; have n4 := World.new_ne wr _ c4
              go_upto_region 12 with fail
              go_cut [15, 16] from 78 to 105 (fun v15 v16 wx => v16 = .bool O.isSome ∧ Hid (Below wr.heap.size wr wx))
              case first =>
                trace_state
                clear HX0 HLE KS GR HA3 KL E L3 R4 R7 R8 BW0 HN HL HBY HM HNIL hA hB KR NB2 RPB RPL SEB SEL
                go_region_held3 (fun w' => w'.cell? ⟨w.heap.size + 1 + 1, 4, none⟩ = some (.slice (some ⟨x1, o1, none⟩) n c) ∧ w'.cell? ⟨x1, o1 + i * 2, none⟩ = some (.string nm) ∧ w'.cell? ⟨x1, o1 + i * 2 + 1, none⟩ = some (.string vl) ∧ w'.cell? ⟨w.heap.size, 0, none⟩ = some (.string rs)) (go_keep) ((go_at_call 59; refine (AUZ.out _).mono ?_; rintro e wb ⟨hb, a0, a1, a2, a3, a4, a5, a6, a7, a8, rfl, hx⟩; have hb' := (show Below wr.heap.size wr wb by first | (with_reducible exact hb) | (with_reducible exact undrew hb) | (with_reducible exact unalloc hb) | (with_reducible exact undrew (unalloc hb)) | (with_reducible exact unalloc (undrew hb))); have hk := held4 c1 c2 c3 c4 hb'; obtain ⟨⟨k1, k2, k3, k4⟩, j1, j2, j3, j4⟩ := hk; dsimp only at j1 j2 j3 j4; (try (have RZ := (nineZ (by first | (with_reducible exact hb) | (with_reducible exact undrew hb))); obtain ⟨z0, z1, z2, z3, z4, z5, z6, z7, z8⟩ := RZ.nine; obtain ⟨y0, y1, y2, y3, y4, y5, y6, y7, y8⟩ := fr9 RZ; clear RZ))))
                all_goals
                  go_wp2_with fail
                  go_meet
                  refine ⟨rfl, Lib.hid ?_⟩
                  first
                    | (with_reducible exact hb'.alloc hb'.size _)
                    | (with_reducible refine Below.setCell (Below.setCell (Below.setCell (Below.setCell (Below.setCell (Below.setCell (Below.setCell (Below.setCell (Below.setCell hb' ?_ _) ?_ _) ?_ _) ?_ _) ?_ _) ?_ _) ?_ _) ?_ _) ?_ _ <;> exact Nat.le_refl _)
              case rest =>
                obtain ⟨h16, BX⟩ := hcut
                have HXC := Lib.hid (HX0.out.step BX.out)
                have G2 := Lib.hid (GR.out _ HXC.out.bw)
                have c1' := (R7.out.below HXC.out.bw).six.2.2.2.2.1
                clear c1 c2 c3 c4 n1 n2 n4 BX HX0 GR
                cases O with
                | none =>
                  rw [show (Option.isSome (none : Option Cr)) = false from rfl] at h16
                  subst h16
                  go_wp2_with (first
                    | (with_reducible refine wpList_load_mid rfl 69 (.tmp 102) rfl x1 (o1 + i * 2) rfl [.string nm, .string vl] _ G2.out Tryz.underlying69 rfl (sizeH _ _) ?_)
                    | (with_reducible refine wpList_pushH rfl (.tmp 98) (.tmp 104) rfl x L rfl HXC.out nm vl rfl (by omega) ?_))
                  intro v5 w5 L5 E5 l5 M5
                  go_wp2_with fail
                  go_roundw
                  case rel => exact ⟨i + 1, v5, L5, by omega, rfl, by go_num, by omega, Lib.hid ⟨M5.out, by rw [E5.out, KS.out]; rfl⟩⟩
                  case measure => simp [intOf]; omega
                | some q =>
                  rw [show (Option.isSome (some q)) = true from rfl] at h16
                  subst h16
                  go_wp2_with fail
                  go_roundw
                  case rel => exact ⟨i + 1, x, L, by omega, rfl, by go_num, by omega, Lib.hid ⟨HXC.out, by rw [KS.out]; simp⟩⟩
                  case measure => simp [intOf]; omega
            · obtain rfl : i = n := by omega
              have c1 : wr.cell? ⟨w.heap.size + 1 + 1, 4, none⟩ = some (.slice A i c) := (R7.out.below HX0.out.bw).six.2.2.2.2.1
              have LK := Lib.hid (show L = keepH (byteL rs) l by rw [HLE.out, List.take_of_length_le (by rw [HN.out]; exact Nat.le_refl _)])
              clear HLE
              go_wp2_with (with_reducible refine wpList_pushH rfl (.tmp 106) (.tmp 109) rfl x L rfl HX0.out ⟨#[65, 117, 116, 104, 111, 114, 105, 122, 97, 116, 105, 111, 110]⟩ (strOfNums HV) rfl (by omega) ?_)
              clear c1
              intro v5 w5 L5 E5 l5 M5
              have R7s := Lib.hid (R7.out.below M5.out.bw)
              have R8s := Lib.hid (R8.out.below M5.out.bw)
              have BWs := Lib.hid (bthen BW0.out M5.out.bw)
              have LF := Lib.hid (show hds L5 = hds (keepH (byteL rs) l ++ [(AUTHs, strOfNums HV)]) by rw [E5.out, LK.out]; rfl)
              rcases M5.out.form with ⟨_, e0, _⟩ | ⟨gb, gc, rfl, hgc, hg1, hg2, hgcell⟩
              · omega
              have GC := Lib.hid hgcell
              have g1 : w.heap.size + 1 + 1 + 1 < gb := Nat.lt_of_lt_of_le L3.out hg1
              have e4 := R7s.out.six.2.2.2.2.1
              have f4 := R7s.out.frozen 4
              have HLS := Lib.hid (show L.length + 1 = (keepH (byteL rs) l).length + 1 by rw [LK.out])
              clear M5 hgcell hg1 E5 HX0
              have RM := Lib.hid (show Row (w5.setCell ⟨w.heap.size + 1 + 1, 4, none⟩ (.slice (some ⟨gb, 0, none⟩) (L.length + 1) gc)) (w.heap.size + 1 + 1) 41 [.string ms, .string uri, .int .i64 code, .string rsn, .slice (some ⟨gb, 0, none⟩) (L.length + 1) gc, .slice B m d] from R7s.out.set 4 _)
              have R8m := Lib.hid (show Row (w5.setCell ⟨w.heap.size + 1 + 1, 4, none⟩ (.slice (some ⟨gb, 0, none⟩) (L.length + 1) gc)) (w.heap.size + 1 + 1 + 1) 41 Z6 from R8s.out.setOther (by omega) _)
              have BWm := Lib.hid (show Below w.heap.size w (w5.setCell ⟨w.heap.size + 1 + 1, 4, none⟩ (.slice (some ⟨gb, 0, none⟩) (L.length + 1) gc)) from BWs.out.setCell (by dsimp only; omega) _)
              have HGm := Lib.hid (show (w5.setCell ⟨w.heap.size + 1 + 1, 4, none⟩ (.slice (some ⟨gb, 0, none⟩) (L.length + 1) gc)).heap[gb]? = w5.heap[gb]? from Below.heap_setCell w5 _ _ gb (by simp; omega))
              have LG := Lib.hid hg2
              clear R7s R8s BWs hg2
              go_wp2_with (first
                | (with_reducible refine wpList_loadR rfl 41 (.tmp 7) rfl RM.out rfl Tryz.underlying41 rfl (sizeL6 _ _ _ _ _ _) ?_)
                | (with_reducible refine wpList_storeR rfl 41 (.tmp 8) (.tmp 112) rfl R8m.out [.string ms, .string uri, .int .i64 code, .string rsn, .slice (some ⟨gb, 0, none⟩) (L.length + 1) gc, .slice B m d] rfl rfl (lenL6 _ _ _ _ _ _ _ _ _ _ _ _) (sizeL6 _ _ _ _ _ _) (p6_one _ _ _ _ _ _ _ _ _ _) BWm.out (by omega) ?_))
              intro w9 R9 B9 H9
              clear e4 f4
              go_wp2_with fail
              have S9 := Lib.hid (show w9.heap.size = w5.heap.size from H9.out.1.trans (by simp [World.setCell]))
              have HB9 := Lib.hid (show Bs w9 w9.heap.size B bs from (hB.below B9.out).up B9.out.size)
              have HA9 := Lib.hid (show Rds w9 w9.heap.size (some ⟨gb, 0, none⟩) (hds (keepH (byteL rs) l ++ [(AUTHs, strOfNums HV)])) from fun _ => ⟨gb, 0, rfl, by rw [S9.out]; exact LG.out, fun j u hu => by
                rw [World.cell?_of_block (w := w5) (a := ⟨gb, 0 + j, none⟩) ((H9.out.2 gb (by omega)).trans HGm.out), Nat.zero_add]
                exact GC.out j u (by rw [LF.out]; exact hu)⟩)
              exact bodyPost_ret (results_ct rfl _ _ _ (w.heap.size + 1 + 1 + 1) [.string ms, .string uri, .int .i64 code, .string rsn, .slice (some ⟨gb, 0, none⟩) (L.length + 1) gc, .slice B m d] _ rfl R9.out.range Tryz.underlying41 rfl (sizeL6 _ _ _ _ _ _)) rfl (by exact AnsP.yes E.out B9.out HLS.out HA9.out HM.out.symm HB9.out)
end Go.Proofs.YtfhbpgickkibmaaGreatDoor
