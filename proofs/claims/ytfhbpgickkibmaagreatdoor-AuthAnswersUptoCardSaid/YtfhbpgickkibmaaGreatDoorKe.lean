/- The law AuthAnswers. -/
import Derived.Test.YtfhbpgickkibmaaGreatDoorNi
import Derived.Test.YtfhbpgickkibmaaGreatDoorDg
namespace Go.Proofs.YtfhbpgickkibmaaGreatDoor
open Go.RowKit

/-- What both hand back: one message, one number. -/
def AnsQ (M U R : ByteArray) (K : Int) (l2 : List (ByteArray × ByteArray)) (bs2 : List Int) (q : Int) (w : World) (e : Ending) (w' : World) : Prop := Below w.heap.size w w' ∧ ∃ A c B d, e = .returned (.tuple #[.agg #[.string M, .string U, .int .i64 K, .string R, .slice A l2.length c, .slice B bs2.length d], .int .u8 q]) ∧ Rds w' w'.heap.size A (hds l2) ∧ Bs w' w'.heap.size B bs2
theorem AnsP.q (ms us rsn : ByteArray) (code : Int) (rs : List Int) (l : List (ByteArray × ByteArray)) (bs : List Int) (V : Option (List Int)) (hb : By bs) :
    ∃ (M U R : ByteArray) (K : Int) (l2 : List (ByteArray × ByteArray)) (bs2 : List Int) (q : Int), (∀ w e w', AnsP ms us rsn code rs l bs V w e w' → AnsQ M U R K l2 bs2 q w e w') ∧ l2.length ≤ l.length + 1 ∧ By bs2 := by
  cases V with
  | none => exact ⟨⟨#[]⟩, ⟨#[]⟩, ⟨#[]⟩, 0, [], [], 2, fun w e w' h => ⟨h.1, none, 0, none, 0, h.2, fun h => absurd h (by simp [hds]), Bs.nil⟩, by simp, fun x hx => absurd hx (by simp)⟩
  | some v =>
    refine ⟨ms, us, rsn, code, keepH rs l ++ [(AUTHs, strOfNums v)], bs, 0, fun w e w' h => ?_, ?_, hb⟩
    · obtain ⟨hb, A, n, c, B, m, d, rfl, rfl, h3, rfl, h5⟩ := h
      exact ⟨hb, A, c, B, d, by rw [List.length_append]; rfl, h3, h5⟩
    · rw [List.length_append]
      have := keepH_len rs l
      simp
      exact this
theorem sizeC5 {a b c d e : Value} : (Tryz.prog.info? 36).map (·.size) = some [a, b, c, d, e].length := show (Tryz.prog.info? 36).map (·.size) = some 5 by kernel_rfl
section
variable {w : World} {b : Nat} {T : TypeId} {x0 x1 x2 x3 x4 y0 y1 y2 y3 y4 y5 y6 y7 y8 z : Value}
theorem ask0 (h : Row w b T [x0, x1, x2, x3, x4, y0, y1, y2, y3, y4, y5, y6, y7, y8, z]) : w.rangeAt b 0 [x0, x1, x2, x3, x4] := Row.at (pre := []) (cs := [x0, x1, x2, x3, x4]) (post := [y0, y1, y2, y3, y4, y5, y6, y7, y8, z]) h
theorem ask5 (h : Row w b T [x0, x1, x2, x3, x4, y0, y1, y2, y3, y4, y5, y6, y7, y8, z]) : w.rangeAt b 5 [y0, y1, y2, y3, y4, y5, y6, y7, y8] := Row.at (pre := [x0, x1, x2, x3, x4]) (cs := [y0, y1, y2, y3, y4, y5, y6, y7, y8]) (post := [z]) h
end
set_option maxRecDepth 100000 in
set_option maxHeartbeats 4000000 in
theorem answers_any (rs ns os us ars ans ais aps cs aos pw ms uri rsn : ByteArray) (ci cst g : Bool) (k code : Int) (A B : Option Addr) (n c m d : Nat) (l : List (ByteArray × ByteArray)) (bs : List Int) (w : World)
    (hA : Rds w w.heap.size A (hds l)) (hn : l.length = n) (hN : n ≤ 1048576) (hl : ∀ h ∈ l, h.1.size ≤ 1048576 ∧ h.2.size ≤ 1048576) (hb : By bs) (hm : bs.length = m) (hM : m ≤ 1048576) (hB : Bs w w.heap.size B bs) (hnil : B = none → m = 0 ∧ d = 0)
    (s1 : rs.size ≤ 1048576) (s2 : ns.size ≤ 1048576) (s3 : os.size ≤ 1048576) (s4 : us.size ≤ 1048576) (s5 : cs.size ≤ 1048576) (s6 : pw.size ≤ 1048576) (s7 : ms.size ≤ 1048576) (s8 : uri.size ≤ 1048576) (hG : GM w) (hK : KC w) (hS : SC w) :
    Calls Tryz.prog 5 #[.agg #[.string rs, .string ns, .string os, .bool ci, .bool cst, .string us, .string ars, .string ans, .string ais, .string aps, .string cs, .string aos, .int .i64 k, .bool g, .string pw], .agg #[.string ms, .string uri, .int .i64 code, .string rsn, .slice A n c, .slice B m d]] w fun e w' => e = .returned (.bool true) ∧ Below w.heap.size w w' := by
  obtain ⟨M, U, R, K, l2, bs2, q, HQ, hl2, hb2⟩ := AnsP.q ms uri rsn code (byteL rs) l bs (ansL code ci (ansCr (byteL us) (byteL rs) (byteL ns) (byteL uri) (byteL os) (byteL cs) (byteL ms) k g (byteL pw) bs)) hb
  have AN := Lib.hid (fun (X : World) (b : Below w.heap.size w X) => (answer_any rs ns os us ars ans ais aps cs aos pw ms uri rsn ci cst g k code A B n c m d l bs X ((hA.below b).up b.size) hn (by omega) (fun h hh => by have := hl h hh; omega) hb hm (by omega) ((hB.below b).up b.size) hnil (by omega) (by omega) (by omega) (by omega) (by omega) (by omega) (by omega) (by omega) (hK.below b) (hS.below b)).mono (fun e w' h => HQ _ _ _ h))
  have RN := Lib.hid (fun (X : World) (b : Below w.heap.size w X) => (refanswer_any rs ns os us ars ans ais aps cs aos pw ms uri rsn ci cst g k code A B n c m d l bs X ((hA.below b).up b.size) hn (by omega) (fun h hh => by have := hl h hh; omega) hb hm (by omega) ((hB.below b).up b.size) hnil (by omega) (by omega) (by omega) (by omega) (by omega) (by omega) (by omega) (by omega)).mono (fun e w' h => HQ _ _ _ h))
  have HG := Lib.hid hG; have HB2 := Lib.hid hb2; have hl3 : l2.length ≤ 16000000 := by omega
  clear HQ hA hB hK hS hG hl hb hb2 hnil hl2 hn hm
  have R2 := Lib.hid (show Row ((w.alloc (.cells #[.string rs, .string ns, .string os, .bool ci, .bool cst, .string us, .string ars, .string ans, .string ais, .string aps, .string cs, .string aos, .int .i64 k, .bool g, .string pw] 38)).alloc (.cells #[.string ms, .string uri, .int .i64 code, .string rsn, .slice A n c, .slice B m d] 41)) w.heap.size 38 [.string rs, .string ns, .string os, .bool ci, .bool cst, .string us, .string ars, .string ans, .string ais, .string aps, .string cs, .string aos, .int .i64 k, .bool g, .string pw] from (Row.new w 38 [.string rs, .string ns, .string os, .bool ci, .bool cst, .string us, .string ars, .string ans, .string ais, .string aps, .string cs, .string aos, .int .i64 k, .bool g, .string pw]).alloc _)
  have R3 := Lib.hid (show Row ((w.alloc (.cells #[.string rs, .string ns, .string os, .bool ci, .bool cst, .string us, .string ars, .string ans, .string ais, .string aps, .string cs, .string aos, .int .i64 k, .bool g, .string pw] 38)).alloc (.cells #[.string ms, .string uri, .int .i64 code, .string rsn, .slice A n c, .slice B m d] 41)) (w.heap.size + 1) 41 [.string ms, .string uri, .int .i64 code, .string rsn, .slice A n c, .slice B m d] by
    have h := Row.new (w.alloc (.cells #[.string rs, .string ns, .string os, .bool ci, .bool cst, .string us, .string ars, .string ans, .string ais, .string aps, .string cs, .string aos, .int .i64 k, .bool g, .string pw] 38)) 41 [.string ms, .string uri, .int .i64 code, .string rsn, .slice A n c, .slice B m d]
    rwa [World.size_alloc] at h)
  have B0 := Lib.hid (show Below w.heap.size w ((w.alloc (.cells #[.string rs, .string ns, .string os, .bool ci, .bool cst, .string us, .string ars, .string ans, .string ais, .string aps, .string cs, .string aos, .int .i64 k, .bool g, .string pw] 38)).alloc (.cells #[.string ms, .string uri, .int .i64 code, .string rsn, .slice A n c, .slice B m d] 41)) from ((Below.refl _ _).alloc (Nat.le_refl _) _).alloc (by simp) _)
  go_enter Tryz.func5, Tryz.ntmps5
  go_wp2_with (with_reducible refine wpList_loadR rfl 41 (.tmp 3) rfl R3.out rfl Tryz.underlying41 rfl (sizeL6 _ _ _ _ _ _) ?_)
  generalize (w.alloc (.cells #[.string rs, .string ns, .string os, .bool ci, .bool cst, .string us, .string ars, .string ans, .string ais, .string aps, .string cs, .string aos, .int .i64 k, .bool g, .string pw] 38)).alloc (.cells #[.string ms, .string uri, .int .i64 code, .string rsn, .slice A n c, .slice B m d] 41) = W at *
  refine (light_any ms uri rsn code A B n c m d W).mono ?_
  rintro e w1 ⟨rfl, hb1⟩
  have R2' := Lib.hid (R2.out.below hb1)
  have R3' := Lib.hid (R3.out.below hb1)
  have B1 := Lib.hid (bthen B0.out hb1)
  clear hb1 R2 R3 B0
  have R2 := R2'; have R3 := R3'
  clear R2' R3'
  have c0 : w1.cell? ⟨w.heap.size, 0, none⟩ = some (.string rs) := R2.out.cell 0
  have c1 : w1.cell? ⟨w.heap.size, 1, none⟩ = some (.string ns) := R2.out.cell 1
  have c5 : w1.cell? ⟨w.heap.size, 5, none⟩ = some (.string us) := R2.out.cell 5
  have c10 : w1.cell? ⟨w.heap.size, 10, none⟩ = some (.string cs) := R2.out.cell 10
  have c14 : w1.cell? ⟨w.heap.size, 14, none⟩ = some (.string pw) := R2.out.cell 14
  have m0 : w1.cell? ⟨w.heap.size + 1, 0, none⟩ = some (.string ms) := R3.out.cell 0
  have m1 : w1.cell? ⟨w.heap.size + 1, 1, none⟩ = some (.string uri) := R3.out.cell 1
  have HL := Lib.hid (show ∀ (b : Bool), b = false → b = false from fun _ h => h)
  clear HL
  by_cases hli : n ≤ 100 ∧ m ≤ 3000
  · have D1 : (decide (n ≤ 100) && decide (m ≤ 3000)) = true := by simp [hli]
    rw [D1]
    clear D1 hli
    by_cases hbig : 3000 < rs.size + ns.size + us.size + cs.size + pw.size + uri.size + ms.size
    · have d1 : decide ((3000 : Int) < (rs.size : Int) + (ns.size : Int) + (us.size : Int) + (cs.size : Int) + (pw.size : Int) + (uri.size : Int) + (ms.size : Int)) = true := by simp; omega
      clear hbig
      go_wp2_with fail
      refine (awake_any _ (HG.out.below B1.out)).mono ?_
      rintro e w2 ⟨rfl, hb2⟩
      have B2 := Lib.hid (bthen B1.out hb2)
      clear hb2
      go_wp2_with fail
      go_ret
      exact ⟨rfl, B2.out⟩
    have d1 : decide ((3000 : Int) < (rs.size : Int) + (ns.size : Int) + (us.size : Int) + (cs.size : Int) + (pw.size : Int) + (uri.size : Int) + (ms.size : Int)) = false := by simp; omega
    clear hbig
    have G0 := Lib.hid (show w1.rangeAt w.heap.size 0 [.string rs, .string ns, .string os, .bool ci, .bool cst] from ask0 R2.out)
    have G5 := Lib.hid (show w1.rangeAt w.heap.size 5 [.string us, .string ars, .string ans, .string ais, .string aps, .string cs, .string aos, .int .i64 k, .bool g] from ask5 R2.out)
    have e14 : w1.cell? ⟨w.heap.size, 14, none⟩ = some (.string pw) := R2.out.cell 14
    go_wp2_with (first
      | (with_reducible refine wpList_load_mid rfl 36 (.tmp 48) rfl w.heap.size 0 rfl [.string rs, .string ns, .string os, .bool ci, .bool cst] _ G0.out Tryz.underlying36 rfl sizeC5 ?_)
      | (with_reducible refine wpList_load_mid rfl 23 (.tmp 50) rfl w.heap.size 5 rfl [.string us, .string ars, .string ans, .string ais, .string aps, .string cs, .string aos, .int .i64 k, .bool g] _ G5.out Tryz.underlying23 rfl (sizeL9 _ _ _ _ _ _ _ _ _) ?_)
      | (with_reducible refine wpList_loadR rfl 41 (.tmp 3) rfl R3.out rfl Tryz.underlying41 rfl (sizeL6 _ _ _ _ _ _) ?_))
    clear c0 c1 c5 c10 c14 m0 m1 G0 G5 e14 d1
    refine (AN.out _ B1.out).mono ?_
    rintro e X ⟨hbx, A1, c1, B1', d1, rfl, hA1, hB1⟩
    have R2' := Lib.hid (R2.out.below hbx)
    have R3' := Lib.hid (R3.out.below hbx)
    have BX := Lib.hid (bthen B1.out hbx)
    clear hbx R2 R3 B1
    have N5 := Lib.hid (Row.new X 41 Z6)
    have BA5 := Lib.hid ((Below.refl X.heap.size X).alloc (Nat.le_refl _) (.cells Z6.toArray 41))
    go_wp2_with (with_reducible refine wpList_storeR rfl 41 (.tmp 5) (.tmp 56) rfl N5.out [.string M, .string U, .int .i64 K, .string R, .slice A1 l2.length c1, .slice B1' bs2.length d1] rfl rfl (lenL6 _ _ _ _ _ _ _ _ _ _ _ _) (sizeL6 _ _ _ _ _ _) (p6_one _ _ _ _ _ _ _ _ _ _) BA5.out (Nat.le_refl _) ?_)
    intro X5 R5 B5 _
    have R2 := Lib.hid (R2'.out.below B5.out)
    have R3 := Lib.hid (R3'.out.below B5.out)
    have BX5 := Lib.hid (bthen BX.out B5.out)
    have HA1 := Lib.hid ((hA1.below B5.out).up B5.out.size)
    have HB1 := Lib.hid ((hB1.below B5.out).up B5.out.size)
    clear R2' R3' BX N5 BA5 B5 hA1 hB1
    have G0 := Lib.hid (show X5.rangeAt w.heap.size 0 [.string rs, .string ns, .string os, .bool ci, .bool cst] from ask0 R2.out)
    have G5 := Lib.hid (show X5.rangeAt w.heap.size 5 [.string us, .string ars, .string ans, .string ais, .string aps, .string cs, .string aos, .int .i64 k, .bool g] from ask5 R2.out)
    have e14 : X5.cell? ⟨w.heap.size, 14, none⟩ = some (.string pw) := R2.out.cell 14
    go_wp2_with (first
      | (with_reducible refine wpList_load_mid rfl 36 (.tmp 59) rfl w.heap.size 0 rfl [.string rs, .string ns, .string os, .bool ci, .bool cst] _ G0.out Tryz.underlying36 rfl sizeC5 ?_)
      | (with_reducible refine wpList_load_mid rfl 23 (.tmp 61) rfl w.heap.size 5 rfl [.string us, .string ars, .string ans, .string ais, .string aps, .string cs, .string aos, .int .i64 k, .bool g] _ G5.out Tryz.underlying23 rfl (sizeL9 _ _ _ _ _ _ _ _ _) ?_)
      | (with_reducible refine wpList_loadR rfl 41 (.tmp 3) rfl R3.out rfl Tryz.underlying41 rfl (sizeL6 _ _ _ _ _ _) ?_))
    clear G0 G5 e14
    refine (RN.out _ BX5.out).mono ?_
    rintro e Y ⟨hby, A2, c2, B2, d2, rfl, hA2, hB2⟩
    have BY' := Lib.hid (bthen BX5.out hby)
    have R5' := Lib.hid (R5.out.below hby)
    have HA1' := Lib.hid ((HA1.out.below hby).up hby.size)
    have HB1' := Lib.hid ((HB1.out.below hby).up hby.size)
    clear hby R2 R3 R5 HA1 HB1 BX5
    have N7 := Lib.hid (Row.new Y 41 Z6)
    have BA7 := Lib.hid ((Below.refl Y.heap.size Y).alloc (Nat.le_refl _) (.cells Z6.toArray 41))
    go_wp2_with (with_reducible refine wpList_storeR rfl 41 (.tmp 7) (.tmp 67) rfl N7.out [.string M, .string U, .int .i64 K, .string R, .slice A2 l2.length c2, .slice B2 bs2.length d2] rfl rfl (lenL6 _ _ _ _ _ _ _ _ _ _ _ _) (sizeL6 _ _ _ _ _ _) (p6_one _ _ _ _ _ _ _ _ _ _) BA7.out (Nat.le_refl _) ?_)
    intro Y7 R7 B7 _
    have R5 := Lib.hid (R5'.out.below B7.out)
    have HA1 := Lib.hid ((HA1'.out.below B7.out).up B7.out.size)
    have HB1 := Lib.hid ((HB1'.out.below B7.out).up B7.out.size)
    have HA2 := Lib.hid ((hA2.below B7.out).up B7.out.size)
    have HB2' := Lib.hid ((hB2.below B7.out).up B7.out.size)
    have BZ := Lib.hid (bthen BY'.out B7.out)
    clear R5' HA1' HB1' hA2 hB2 BY' N7 BA7 B7
    go_wp2_with (first
      | (with_reducible refine wpList_loadR rfl 41 (.tmp 5) rfl R5.out rfl Tryz.underlying41 rfl (sizeL6 _ _ _ _ _ _) ?_)
      | (with_reducible refine wpList_loadR rfl 41 (.tmp 7) rfl R7.out rfl Tryz.underlying41 rfl (sizeL6 _ _ _ _ _ _) ?_))
    refine (same04_any M U R K A1 A2 B1' B2 l2.length c1 c2 bs2.length d1 d2 l2 bs2 _ HA1.out HA2.out rfl hl3 HB2.out rfl HB1.out HB2'.out).mono ?_
    rintro e Z ⟨rfl, hbz⟩
    have BW := Lib.hid (bthen BZ.out hbz)
    clear hbz
    go_wp2_with fail
    refine (awake_any _ (HG.out.below BW.out)).mono ?_
    rintro e w9 ⟨rfl, hb9⟩
    have B9 := Lib.hid (bthen BW.out hb9)
    clear hb9
    go_wp2_with fail
    go_ret
    exact ⟨rfl, B9.out⟩
  · have D1 : (decide (n ≤ 100) && decide (m ≤ 3000)) = false := by
      rw [Bool.and_eq_false_iff]
      by_cases h1 : n ≤ 100
      · exact .inr (by simp; omega)
      · exact .inl (by simp; omega)
    rw [D1]
    clear D1 hli c0 c1 c5 c10 c14 m0 m1
    go_wp2_with fail
    refine (awake_any _ (HG.out.below B1.out)).mono ?_
    rintro e w2 ⟨rfl, hb2⟩
    have B2 := Lib.hid (bthen B1.out hb2)
    clear hb2
    go_wp2_with fail
    go_ret
    exact ⟨rfl, B2.out⟩
end Go.Proofs.YtfhbpgickkibmaaGreatDoor
