/- The contracts of hash's Sum and Text. -/
import Derived.Test.YtldonfgdomeacaaDoorG
import Derived.Test.YtldonfgdomeacaaDoorI
import Derived.Laws.IdiomStrings
namespace Go.Proofs.YtldonfgdomeacaaDoor
open Go.RowKit

theorem finH_len (s : HS) : (finH s).length = 32 := outH_len _
theorem finH_by (s : HS) : By (finH s) := outH_by _
theorem info24b : ∃ a, Tryd.prog.info? 24 = some a ∧ a.size = 32 := by
  have h := info24
  rw [Option.map_eq_some_iff] at h
  exact h
def OneRow (w : World) (v : Value) (wx : World) : Prop := v = .pointer (some ⟨w.heap.size, 0, none⟩) ∧ Row wx w.heap.size 24 (U8 (List.replicate 32 0)) ∧ Below w.heap.size w wx
set_option maxRecDepth 100000 in
theorem sum_any (A : Option Addr) (m c : Nat) (bs : List Int) (w : World) (hb : By bs) (hA : Bs w w.heap.size A bs) (hm : bs.length = m) (hc : m ≤ c) (hM : m ≤ 8192) (hK : KC w) :
    Calls Tryd.prog 13 #[.slice A m c] w fun e w' => e = .returned (.agg (U8 (sumH bs)).toArray) ∧ Below w.heap.size w w' := by
  have HB := Lib.hid hb; have HA := Lib.hid hA; have HM := Lib.hid hm; have HK := Lib.hid hK
  clear hb hA hm hK
  go_enter Tryd.func13, Tryd.ntmps13
  go_upto_region 0 with fail
  go_cut [2] (fun v wx => OneRow w v wx)
  case first =>
    go_wp2_with (with_reducible refine wpList_value rfl _ _ (exec_alloc rfl zero24) ?_)
    go_meet
    exact ⟨rfl, Row.new w 24 _, (Below.refl _ _).alloc (Nat.le_refl _) _⟩
  case rest =>
    obtain ⟨rfl, R, B1⟩ := hcut
    obtain ⟨w1, rfl⟩ : ∃ w1 : World, w1 = wc := ⟨_, rfl⟩
    have R1 := Lib.hid R; have BW := Lib.hid B1
    clear R B1
    go_wp2_with fail
    refine (start_any _).mono ?_
    rintro e w2 ⟨rfl, hb2⟩
    have BW2 := Lib.hid (BW.out.trans (hb2.mono BW.out.size))
    have R2 := Lib.hid (R1.out.below hb2)
    clear hb2 R1 BW
    go_wp2_with fail
    refine (feed_any startH A m c bs w2 startH_range HB.out ((HA.out.below BW2.out).up BW2.out.size) HM.out hc hM (HK.out.below BW2.out)).mono ?_
    rintro e w3 ⟨rfl, hb3⟩
    have BW3 := Lib.hid (BW2.out.trans (hb3.mono BW2.out.size))
    have R3 := Lib.hid (R2.out.below hb3)
    clear hb3 R2 BW2
    go_wp2_with fail
    refine (finish_any (feedH startH bs) w3 (feedH_range startH_range HB.out) (HK.out.below BW3.out)).mono ?_
    rintro e w4 ⟨rfl, hb4⟩
    have BW4 := Lib.hid (BW3.out.trans (hb4.mono BW3.out.size))
    have R4 := Lib.hid (R3.out.below hb4)
    clear hb4 R3 BW3
    have SE := Lib.hid (show sumH bs = finH (feedH startH bs) from rfl)
    have LE := Lib.hid (show (U8 (finH (feedH startH bs))).length = 32 by simp [U8, finH_len])
    have ONE := Lib.hid (U8_one (finH (feedH startH bs)))
    have KEY := Lib.hid (R4.out.setAll (U8 (finH (feedH startH bs))) (by rw [LE.out]; rfl))
    generalize finH (feedH startH bs) = f at *
    go_wp2_with (with_reducible refine wpList_store_mid rfl 24 (.tmp 2) (.tmp 6) rfl w.heap.size 0 _ rfl rfl ?ht ?hi ?h1 ?_)
    case ht => rw [show (U8 f).toArray.size = 32 from LE.out]; exact R4.out.there
    case hi => rw [show (U8 f).toArray.size = 32 from LE.out]; first | exact info24 | exact info24b
    case h1 => exact ONE.out
    exact bodyPost_ret (results_cell rfl _ _ _ w.heap.size (U8 f) _ rfl KEY.out.range Tryd.underlying24 rfl (by rw [LE.out]; exact info24)) rfl ⟨by rw [SE.out], below_setCells (Nat.le_refl _) _ _ _ BW4.out⟩

/-- []byte(s): a new block with the text's bytes. -/
theorem wpList_bytes {ops : Array Oper} {rest : List Oper} {op : Oper} {a : Act} {w : World} {Q : Exit → Act → World → Prop} (hgd : op.guard = none) (x : Operand) (ho : op.op = .convert 9 22 x) (s : ByteArray) (hx : a.eval x = .string s)
    (h : ∀ cap w', s.size ≤ cap → Bs w' w'.heap.size (some ⟨w.heap.size, 0, none⟩) (byteL s) → Below w.heap.size w w' → wpList Tryd.prog ops Q rest (a.put op.dst (.slice (some ⟨w.heap.size, 0, none⟩) s.size cap)) w') : wpList Tryd.prog ops Q (op :: rest) a w := by
  have hr := run_bytes_of_string (P := Tryd.prog) w 9 22 5 s Tryd.underlying9 Tryd.underlying22 Tryd.underlying5
  have hge := grownCap_ge w s.size 0 5
  generalize grownCap w s.size 0 5 = cap at *
  refine wpList_value hgd _ (w.drew.alloc (Obj.cells (bytesRow s cap) 5 ((bytesRow s cap).size, (bytesRow s cap).size + 1))) ?_ (h cap _ hge ?_ ?_)
  · unfold execOp
    simp only [ho, hx, Sem.run_bind, hr, Result.andThen_ok, Sem.run_pure]
  · intro _
    refine ⟨_, rfl, by simp [World.size_alloc], fun j u hu => ?_⟩
    rw [Addr.add_mid, Nat.zero_add]
    refine (World.cell?_alloc_mark w.drew _ 5 _ j).trans ?_
    have hj : j < (byteL s).length := (List.getElem?_eq_some_iff.1 hu).1
    rw [byteL_len] at hj
    unfold bytesRow
    rw [Array.getElem?_append_left (by simpa using hj)]
    unfold byteL at hu
    simp at hu ⊢
    obtain ⟨c, hc, rfl⟩ := hu
    exact ⟨c, hc, rfl⟩
  · exact ((Below.refl w.heap.size w).drew).alloc (Nat.le_refl _) _
theorem sumH_len (bs : List Int) : (sumH bs).length = 32 := finH_len _
theorem sumH_by (bs : List Int) : By (sumH bs) := finH_by _
def textH (xs : List Int) : List Int := hexL (sumH xs)
set_option maxRecDepth 100000 in
theorem text_any (s : ByteArray) (w : World) (hM : s.size ≤ 8192) (hK : KC w) :
    Calls Tryd.prog 17 #[.string s] w fun e w' => e = .returned (.string (strOfNums (textH (byteL s)))) ∧ Below w.heap.size w w' := by
  have HK := Lib.hid hK; have BL := Lib.hid (byteL_len s)
  clear hK
  have SL := Lib.hid (sumH_len (byteL s)); have SB := Lib.hid (sumH_by (byteL s))
  have TE := Lib.hid (show textH (byteL s) = hexL (sumH (byteL s)) from rfl)
  go_enter Tryd.func17, Tryd.ntmps17
  go_wp2_with (with_reducible refine wpList_bytes rfl _ rfl s rfl ?_)
  intro cap w1 hcap hbs hb1
  have BW := Lib.hid hb1; have HBS := Lib.hid hbs
  clear hb1 hbs
  go_wp2_with fail
  refine (sum_any _ s.size cap (byteL s) w1 (byteL_by s) HBS.out BL.out hcap hM (HK.out.below BW.out)).mono ?_
  rintro e w2 ⟨rfl, hb2⟩
  have BW2 := Lib.hid (BW.out.trans (hb2.mono BW.out.size))
  clear hb2 BW HBS
  generalize sumH (byteL s) = f at *
  have LE := Lib.hid (show (U8 f).length = 32 by simp [U8, SL.out])
  have ONE := Lib.hid (U8_one f)
  have R := Lib.hid (Row.new w2 24 (U8 (List.replicate 32 0)))
  have KEY := Lib.hid (R.out.setAll (U8 f) (by rw [LE.out]; rfl))
  go_wp2_with (first
    | (with_reducible refine wpList_value rfl _ _ (exec_alloc rfl zero24) ?_)
    | (with_reducible refine wpList_store_mid rfl 24 (.tmp 3) (.tmp 6) rfl w2.heap.size 0 _ rfl rfl ?ht ?hi ?h1 ?_))
  case ht => rw [show (U8 f).toArray.size = 32 from LE.out]; exact R.out.there
  case hi => rw [show (U8 f).toArray.size = 32 from LE.out]; first | exact info24 | exact info24b
  case h1 => exact ONE.out
  refine (hex_any _ 32 32 f _ SB.out (fun _ => ⟨_, rfl, KEY.out.lt, fun j x hx => by
    rw [Addr.add_mid, Nat.zero_add]
    exact (KEY.out.cell j).trans (U8_get hx)⟩) SL.out (Nat.le_refl _) (by omega)).mono ?_
  rintro e w3 ⟨rfl, hb3⟩
  have BW3 := Lib.hid (show Below w.heap.size w (w2.alloc (.cells (U8 (List.replicate 32 0)).toArray 24)) from BW2.out.alloc BW2.out.size _)
  have BW4 := Lib.hid (below_setCells (b := w2.heap.size) BW2.out.size (U8 f) 0 _ BW3.out)
  have BW5 := Lib.hid (BW4.out.trans (hb3.mono BW4.out.size))
  clear hb3 BW2 BW3 BW4 R KEY
  go_wp2_with fail
  go_ret
  exact ⟨by rw [TE.out]; rfl, BW5.out⟩
end Go.Proofs.YtldonfgdomeacaaDoor
