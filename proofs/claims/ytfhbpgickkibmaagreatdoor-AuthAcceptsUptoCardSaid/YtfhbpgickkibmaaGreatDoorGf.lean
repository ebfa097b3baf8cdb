/- The contracts of hash's Sum and Text and of the reference's Hex. The reference's Block. -/
import Derived.Test.YtfhbpgickkibmaaGreatDoorGd
import Derived.Deep.RegionLaw
import Derived.Laws.BytesArg
import Derived.Laws.IdiomStrings
import Derived.Deep.QuietTactic
import Derived.BigQuiet
import Derived.StillTailTactics
import Derived.Laws.AppendOwnNone
import Derived.Deep.AppendLies
import Derived.Deep.DeepAppendRoom
namespace Go.Proofs.YtfhbpgickkibmaaGreatDoor
open Go.RowKit

theorem finH_len (s : HS) : (finH s).length = 32 := outH_len _
theorem finH_by (s : HS) : By (finH s) := outH_by _
theorem info24b : ∃ a, Tryz.prog.info? 122 = some a ∧ a.size = 32 := by
  have h := info24
  rw [Option.map_eq_some_iff] at h
  exact h
def OneRow (w : World) (v : Value) (wx : World) : Prop := v = .pointer (some ⟨w.heap.size, 0, none⟩) ∧ Row wx w.heap.size 122 (U8 (List.replicate 32 0)) ∧ Below w.heap.size w wx
set_option maxRecDepth 100000 in
theorem sum_any (A : Option Addr) (m c : Nat) (bs : List Int) (w : World) (hb : By bs) (hA : Bs w w.heap.size A bs) (hm : bs.length = m) (hc : m ≤ c) (hM : m ≤ 16000000) (hK : KC w) :
    Calls Tryz.prog 69 #[.slice A m c] w fun e w' => e = .returned (.agg (U8 (sumH bs)).toArray) ∧ Below w.heap.size w w' := by
  have HB := Lib.hid hb; have HA := Lib.hid hA; have HM := Lib.hid hm; have HK := Lib.hid hK
  clear hb hA hm hK
  go_enter Tryz.func69, Tryz.ntmps69
  go_upto_region 0 with fail
  go_cut [2] (fun v wx => OneRow w v wx)
  case first =>
    go_wp2_with (with_reducible refine wpList_value rfl _ _ (exec_alloc rfl zero24) ?_)
    go_meet
    exact ⟨rfl, Row.new w 122 _, (Below.refl _ _).alloc (Nat.le_refl _) _⟩
  case rest =>
    obtain ⟨rfl, R, B1⟩ := hcut
    obtain ⟨w1, rfl⟩ : ∃ w1 : World, w1 = wc := ⟨_, rfl⟩
    have R1 := Lib.hid R; have BW := Lib.hid B1
    clear R B1
    go_wp2_with fail
    refine (start_any _).mono ?_
    rintro e w2 ⟨rfl, hb2⟩
    have BW2 := Lib.hid (BW.out.trans (hb2.mono BW.out.size))
    have R2 := Lib.hid (R1.out.below hb2)
    clear hb2 R1 BW
    go_wp2_with fail
    refine (feed_any startH A m c bs w2 startH_range HB.out ((HA.out.below BW2.out).up BW2.out.size) HM.out hc hM (HK.out.below BW2.out)).mono ?_
    rintro e w3 ⟨rfl, hb3⟩
    have BW3 := Lib.hid (BW2.out.trans (hb3.mono BW2.out.size))
    have R3 := Lib.hid (R2.out.below hb3)
    clear hb3 R2 BW2
    go_wp2_with fail
    refine (finish_any (feedH startH bs) w3 (feedH_range startH_range HB.out) (HK.out.below BW3.out)).mono ?_
    rintro e w4 ⟨rfl, hb4⟩
    have BW4 := Lib.hid (BW3.out.trans (hb4.mono BW3.out.size))
    have R4 := Lib.hid (R3.out.below hb4)
    clear hb4 R3 BW3
    have SE := Lib.hid (show sumH bs = finH (feedH startH bs) from rfl)
    have LE := Lib.hid (show (U8 (finH (feedH startH bs))).length = 32 by simp [U8, finH_len])
    have ONE := Lib.hid (U8_one (finH (feedH startH bs)))
    have KEY := Lib.hid (R4.out.setAll (U8 (finH (feedH startH bs))) (by rw [LE.out]; rfl))
    generalize finH (feedH startH bs) = f at *
    go_wp2_with (with_reducible refine wpList_store_mid rfl 122 (.tmp 2) (.tmp 6) rfl w.heap.size 0 _ rfl rfl ?ht ?hi ?h1 ?_)
    case ht => rw [show (U8 f).toArray.size = 32 from LE.out]; exact R4.out.there
    case hi => rw [show (U8 f).toArray.size = 32 from LE.out]; first | exact info24 | exact info24b
    case h1 => exact ONE.out
    exact bodyPost_ret (results_cell rfl _ _ _ w.heap.size (U8 f) _ rfl KEY.out.range Tryz.underlying122 rfl (by rw [LE.out]; exact info24)) rfl ⟨by rw [SE.out], below_setCells (Nat.le_refl _) _ _ _ BW4.out⟩
/-- []byte(s): a new block with the text's bytes. -/
theorem wpList_bytes {ops : Array Oper} {rest : List Oper} {op : Oper} {a : Act} {w : World} {Q : Exit → Act → World → Prop} (hgd : op.guard = none) (x : Operand) (ho : op.op = .convert 9 31 x) (s : ByteArray) (hx : a.eval x = .string s)
    (h : ∀ cap w', s.size ≤ cap → Bs w' w'.heap.size (some ⟨w.heap.size, 0, none⟩) (byteL s) → Below w.heap.size w w' → wpList Tryz.prog ops Q rest (a.put op.dst (.slice (some ⟨w.heap.size, 0, none⟩) s.size cap)) w') : wpList Tryz.prog ops Q (op :: rest) a w := by
  have hr := run_bytes_of_string (P := Tryz.prog) w 9 31 5 s Tryz.underlying9 Tryz.underlying31 Tryz.underlying5
  have hge := grownCap_ge w s.size 0 5
  generalize grownCap w s.size 0 5 = cap at *
  refine wpList_value hgd _ (w.drew.alloc (Obj.cells (bytesRow s cap) 5 ((bytesRow s cap).size, (bytesRow s cap).size + 1))) ?_ (h cap _ hge ?_ ?_)
  · unfold execOp
    simp only [ho, hx, Sem.run_bind, hr, Result.andThen_ok, Sem.run_pure]
  · intro _
    refine ⟨_, rfl, by simp [World.size_alloc], fun j u hu => ?_⟩
    rw [Addr.add_mid, Nat.zero_add]
    refine (World.cell?_alloc_mark w.drew _ 5 _ j).trans ?_
    have hj : j < (byteL s).length := (List.getElem?_eq_some_iff.1 hu).1
    rw [byteL_len] at hj
    unfold bytesRow
    rw [Array.getElem?_append_left (by simpa using hj)]
    unfold byteL at hu
    simp at hu ⊢
    obtain ⟨c, hc, rfl⟩ := hu
    exact ⟨c, hc, rfl⟩
  · exact ((Below.refl w.heap.size w).drew).alloc (Nat.le_refl _) _
theorem sumH_len (bs : List Int) : (sumH bs).length = 32 := finH_len _
theorem sumH_by (bs : List Int) : By (sumH bs) := finH_by _
def textH (xs : List Int) : List Int := hexL (sumH xs)
set_option maxRecDepth 100000 in
theorem htext_any (s : ByteArray) (w : World) (hM : s.size ≤ 16000000) (hK : KC w) :
    Calls Tryz.prog 34 #[.string s] w fun e w' => e = .returned (.string (strOfNums (textH (byteL s)))) ∧ Below w.heap.size w w' := by
  have HK := Lib.hid hK; have BL := Lib.hid (byteL_len s)
  clear hK
  have SL := Lib.hid (sumH_len (byteL s)); have SB := Lib.hid (sumH_by (byteL s))
  have TE := Lib.hid (show textH (byteL s) = hexL (sumH (byteL s)) from rfl)
  go_enter Tryz.func34, Tryz.ntmps34
  go_wp2_with (with_reducible refine wpList_bytes rfl _ rfl s rfl ?_)
  intro cap w1 hcap hbs hb1
  have BW := Lib.hid hb1; have HBS := Lib.hid hbs
  clear hb1 hbs
  go_wp2_with fail
  refine (sum_any _ s.size cap (byteL s) w1 (byteL_by s) HBS.out BL.out hcap hM (HK.out.below BW.out)).mono ?_
  rintro e w2 ⟨rfl, hb2⟩
  have BW2 := Lib.hid (BW.out.trans (hb2.mono BW.out.size))
  clear hb2 BW HBS
  generalize sumH (byteL s) = f at *
  have LE := Lib.hid (show (U8 f).length = 32 by simp [U8, SL.out])
  have ONE := Lib.hid (U8_one f)
  have R := Lib.hid (Row.new w2 122 (U8 (List.replicate 32 0)))
  have KEY := Lib.hid (R.out.setAll (U8 f) (by rw [LE.out]; rfl))
  go_wp2_with (first
    | (with_reducible refine wpList_value rfl _ _ (exec_alloc rfl zero24) ?_)
    | (with_reducible refine wpList_store_mid rfl 122 (.tmp 3) (.tmp 6) rfl w2.heap.size 0 _ rfl rfl ?ht ?hi ?h1 ?_))
  case ht => rw [show (U8 f).toArray.size = 32 from LE.out]; exact R.out.there
  case hi => rw [show (U8 f).toArray.size = 32 from LE.out]; first | exact info24 | exact info24b
  case h1 => exact ONE.out
  refine (hex_any _ 32 32 f _ SB.out (fun _ => ⟨_, rfl, KEY.out.lt, fun j x hx => by
    rw [Addr.add_mid, Nat.zero_add]
    exact (KEY.out.cell j).trans (U8_get hx)⟩) SL.out (Nat.le_refl _) (by omega)).mono ?_
  rintro e w3 ⟨rfl, hb3⟩
  have BW3 := Lib.hid (show Below w.heap.size w (w2.alloc (.cells (U8 (List.replicate 32 0)).toArray 122)) from BW2.out.alloc BW2.out.size _)
  have BW4 := Lib.hid (below_setCells (b := w2.heap.size) BW2.out.size (U8 f) 0 _ BW3.out)
  have BW5 := Lib.hid (BW4.out.trans (hb3.mono BW4.out.size))
  clear hb3 BW2 BW3 BW4 R KEY
  go_wp2_with fail
  go_ret
  exact ⟨by rw [TE.out]; rfl, BW5.out⟩
def Clean (s : HS) : Prop := canonH s = s
theorem clean_tail {s : HS} : Clean s ↔ s.tail.take (heldN s.n) ++ List.replicate (64 - heldN s.n) 0 = s.tail :=
  ⟨fun h => congrArg HS.tail h, fun h => by unfold Clean canonH; rw [h]⟩
theorem take_canon (l : List Int) (h : Nat) (hl : h ≤ l.length) : (l.take h ++ List.replicate (64 - h) 0).take h = l.take h := by
  rw [List.take_append_of_le_length (by rw [List.length_take]; omega), List.take_take, Nat.min_self]
theorem canon_clean {s : HS} (h : s.tail.length = 64) : Clean (canonH s) := by
  have hl := heldN_lt s.n
  rw [clean_tail]
  show (s.tail.take (heldN s.n) ++ List.replicate (64 - heldN s.n) 0).take (heldN s.n) ++ List.replicate (64 - heldN s.n) 0 = _
  rw [take_canon _ _ (by omega)]
  rfl
theorem step_clean {s : HS} (hc : Clean s) (h : s.tail.length = 64) (b : Int) : Clean (stepH s b) := by
  have hl := heldN_lt s.n
  have hh := heldN_cast (n := s.n)
  rw [clean_tail] at hc ⊢
  unfold stepH
  split
  · rename_i hw
    have h0 : heldN ((s.n + 1) % 18446744073709551616) = 0 := by unfold heldN; omega
    dsimp only
    rw [h0]
    rfl
  · rename_i hw
    have h1 : heldN ((s.n + 1) % 18446744073709551616) = heldN s.n + 1 := by unfold heldN at *; omega
    dsimp only
    rw [h1]
    have e : s.tail.set (heldN s.n) b = s.tail.take (heldN s.n) ++ (b :: List.replicate (64 - (heldN s.n + 1)) 0) := by
      conv => lhs; rw [← hc]
      rw [List.set_append_right _ _ (by rw [List.length_take]; omega), List.length_take, Nat.min_eq_left (by omega), Nat.sub_self]
      rw [show 64 - heldN s.n = (64 - (heldN s.n + 1)) + 1 by omega, List.replicate_succ, List.set_cons_zero]
    rw [e, List.take_append, List.length_take, Nat.min_eq_left (by omega), Nat.add_sub_cancel_left, List.take_succ_cons, List.take_zero, List.take_take, Nat.min_eq_right (by omega)]
    simp
theorem step_len {s : HS} (h : s.tail.length = 64) (b : Int) : (stepH s b).tail.length = 64 := by
  unfold stepH
  split
  · rfl
  · simpa using h
theorem fold_clean : ∀ (bs : List Int) {s : HS}, Clean s → s.tail.length = 64 → Clean (bs.foldl stepH s)
  | [], _, h, _ => h
  | b :: bs, _, h, hl => fold_clean bs (step_clean h hl b) (step_len hl b)
theorem feed_clean {s : HS} (h : s.tail.length = 64) (bs : List Int) : Clean (feedH s bs) := fold_clean bs (canon_clean h) (by have := heldN_lt s.n; simp [canonH]; omega)
theorem feed_feed {s : HS} (h : s.tail.length = 64) (a b : List Int) : feedH (feedH s a) b = feedH s (a ++ b) := by
  unfold feedH
  rw [List.foldl_append, show canonH (List.foldl stepH (canonH s) a) = _ from feed_clean h a]
  rfl
/-- A later world: all that was there is as it was. -/
structure BW (w0 : World) where
  w : World
  h : Below w0.heap.size w0 w
instance (w0 : World) : Nonempty (BW w0) := ⟨⟨w0, Below.refl _ _⟩⟩
section
variable {P : Program}
theorem region_bw {id : Nat} {Q : Exit → Act → World → Prop} {a : Act} {w : World} {l : List Oper} (hm : P.follows .mixedOrders = true) (hB : Region.lexB .any l.toArray = true)
    (h : wpQuiet P l.toArray (fun w' => ∃ x : BW w, w' = x.w) (fun a' => ∀ w', (∃ x : BW w, w' = x.w) → Q .normal a' w') l a) : (Code.region id l.toArray true).wp P Q a w :=
  wp_region_quiet (C := fun w' => ∃ x : BW w, w' = x.w) hm hB ⟨⟨w.drew, (Below.refl _ _).drew⟩, rfl⟩ (by simpa using h)
theorem calls_bw {f : FuncId} {args : Array Value} {w : World} {x : BW w} {v : Value} (h : Calls P f args x.w fun e w' => e = .returned v ∧ Below x.w.heap.size x.w w') :
    Calls P f args x.w fun e w'' => e = .returned v ∧ ∃ y : BW w, w'' = y.w :=
  h.mono fun _ w' ⟨he, hb⟩ => ⟨he, ⟨w', x.h.trans (hb.mono x.h.size)⟩, rfl⟩
/-- A load of a row that was there. -/
theorem quiet_load {o : Oper} {a : Act} {w : World} {K : Act → Prop} (ty : TypeId) (x : Operand) (ho : o.op = .load ty x) (b : Nat) (hx : a.eval x = .pointer (some ⟨b, 0, none⟩)) (cs : List Value) (T : TypeId) (d : TypeDesc) (hr : Row w b T cs)
    (hu : P.underlying ty = some d) (hd : d.isRow = true) (hi : (P.info? ty).map (·.size) = some cs.length) (h : K (a.put o.dst (.agg cs.toArray))) : o.quiet P a (fun w' => ∃ y : BW w, w' = y.w) K :=
  ⟨.agg cs.toArray, fun w' ⟨y, hy⟩ => by
    subst hy
    unfold Oper.quietAt execOp
    simp only [ho, hx, Instr.loadAt, Instr.sureAddr, Sem.run_bind, Sem.run_pure, Result.andThen_ok, run_loadVar_mid y.w b 0 ty cs d (hr.below y.h).range hu hd hi]
    exact ⟨rfl, rfl⟩, h⟩
/-- An operation whose value is known in every later world. -/
theorem quiet_val {o : Oper} {a : Act} {w : World} {K : Act → Prop} (v : Value) (hrun : ∀ y : BW w, (execOp a.eval o).run P y.w = .ok (.value v) y.w) (h : K (a.put o.dst v)) : o.quiet P a (fun w' => ∃ y : BW w, w' = y.w) K :=
  ⟨v, fun w' ⟨y, hy⟩ => by
    subst hy
    unfold Oper.quietAt
    rw [hrun y]
    exact ⟨rfl, rfl⟩, h⟩
end
def canonTo (s : HS) (k : Nat) : List Int := s.tail.take (heldN s.n) ++ List.replicate (k - heldN s.n) 0 ++ s.tail.drop k
theorem canonTo_len {s : HS} (h : s.tail.length = 64) {k : Nat} (h1 : heldN s.n ≤ k) (h2 : k ≤ 64) : (canonTo s k).length = 64 := by simp [canonTo]; omega
theorem canonTo_start {s : HS} : canonTo s (heldN s.n) = s.tail := by simp [canonTo]
theorem canonTo_end {s : HS} (h : s.tail.length = 64) : canonTo s 64 = (canonH s).tail := by
  unfold canonTo canonH
  rw [List.drop_of_length_le (by omega), List.append_nil]
theorem canonTo_set {s : HS} (h : s.tail.length = 64) {k : Nat} (h1 : heldN s.n ≤ k) (h2 : k < 64) : (canonTo s k).set k 0 = canonTo s (k + 1) := by
  unfold canonTo
  rw [List.set_append_right _ _ (by simp; omega)]
  have e : k - (s.tail.take (heldN s.n) ++ List.replicate (k - heldN s.n) (0 : Int)).length = 0 := by simp; omega
  rw [e, List.drop_eq_getElem_cons (by omega), List.set_cons_zero, show k + 1 - heldN s.n = (k - heldN s.n) + 1 by omega, List.replicate_succ']
  simp
theorem hsL_set {s : HS} {k : Nat} (x : Int) : (hsL s).set (9 + k) (.int .u8 x) = hsL ⟨s.st, s.n, s.tail.set k x⟩ := by
  unfold hsL
  rw [List.set_append_right _ _ (by rw [stL_len]; omega), stL_len, show 9 + k - 8 = k + 1 by omega, List.set_cons_succ]
  unfold U8
  rw [List.map_set]
theorem Row.tail_cell {w : World} {b : Nat} {T : TypeId} {s : HS} (h : Row w b T (hsL s)) (k : Nat) (hk : k < s.tail.length) : w.cell? ⟨b, 9 + k, none⟩ = some (.int .u8 (s.tail.getD k 0)) :=
  h.tail_at k _ (U8_get (getD_some hk))
structure CX (w : World) (s : HS) (k : Nat) (wr : World) : Prop where
  r1 : Row wr w.heap.size 154 (hsL ⟨s.st, s.n, canonTo s k⟩)
  r2 : Row wr (w.heap.size + 1) 154 (hsL ZS)
  bw : Below w.heap.size w wr
def CXR (w : World) (s : HS) (v : Value) (wr : World) : Prop := ∃ k : Nat, heldN s.n ≤ k ∧ k ≤ 64 ∧ v = .int .i64 k ∧ CX w s k wr
theorem CX.step {w wr : World} {s : HS} {k : Nat} (H : CX w s k wr) (h : s.tail.length = 64) (h1 : heldN s.n ≤ k) (h2 : k < 64) : CX w s (k + 1) (wr.setCell ⟨w.heap.size, 9 + k, none⟩ (.int .u8 0)) := by
  refine ⟨?_, H.r2.setOther (by omega) _, H.bw.setCell (by simp) _⟩
  have h3 := H.r1.set (9 + k) (.int .u8 0)
  rwa [hsL_set, canonTo_set h h1 h2] at h3
set_option maxRecDepth 100000 in
theorem canon_any (s : HS) (w : World) (hs : HSR s) : Calls Tryz.prog 147 #[.agg (hsL s).toArray] w fun e w' => e = .returned (.agg (hsL (canonH s)).toArray) ∧ Below w.heap.size w w' := by
  have SO := Lib.hid hs
  have n0 := hs.2.1.1
  have n1 := hs.2.1.2
  have hl := heldN_lt s.n
  clear hs
  go_enter Tryz.func147, Tryz.ntmps147
  go_upto_region 0 with fail
  go_cut [1, 2] (fun v1 v2 wx => F0 w s v1 v2 wx)
  case first =>
    go_wp2_with (with_reducible refine wpList_value rfl _ _ (exec_alloc rfl zero32) ?_)
    go_meet
    refine ⟨rfl, by rw [World.size_alloc], ?_, ?_, by simp, ?_⟩
    · exact (Row.new w 154 (hsL s)).alloc _
    · have h := Row.new (w.alloc (.cells (hsL s).toArray 154)) 154 (hsL ZS)
      rw [World.size_alloc] at h
      exact h
    · exact ((Below.refl _ _).alloc (Nat.le_refl _) _).alloc (by simp) _
  case rest =>
    obtain ⟨rfl, rfl, r1, r2, sz, bw⟩ := hcut
    obtain ⟨w1, rfl⟩ : ∃ w1 : World, w1 = wc := ⟨_, rfl⟩
    have hn := r1.n_at
    have ST := Lib.hid (show CX w s (heldN s.n) w1 from ⟨by rw [canonTo_start]; exact r1, r2, bw⟩)
    clear r1 r2 sz bw
    go_upto_region 1 with fail
    go_cut [3] (fun v wx => SameW (.int .i64 (heldN s.n)) w1 v wx)
    case first =>
      go_wp2_with fail
      go_meet
      exact ⟨by rw [heldN_cast], rfl⟩
    case rest =>
      clear hn
      obtain ⟨rfl, rfl⟩ := hcut
      go_wp2_with fail
      go_loopw [3] (fun v wr => CXR w s v wr) (fun v _ => 64 - (intOf v).toNat)
      case atStart => exact ⟨_, Nat.le_refl _, by omega, rfl, ST.out⟩
      case round =>
        clear ST
        obtain ⟨k, hk1, hk2, rfl, hP⟩ := hrel
        have HP := Lib.hid hP
        by_cases hlt : k < 64
        · have hd : decide ((k : Int) < 64) = true := by simp; omega
          have k0 : (0 : Int) ≤ (k : Int) := by omega
          have k1 : (k : Int) < 64 := by omega
          have hc := hP.r1.tail_cell k (by rw [canonTo_len SO.out.2.2.1 hk1 hk2]; exact hlt)
          have hf := hP.r1.frozen (9 + k)
          dsimp only at hc
          generalize (canonTo s k).getD k 0 = y at *
          clear hP
          go_wp2_with fail
          go_roundw
          case rel => exact ⟨k + 1, by omega, by omega, by go_num, HP.out.step SO.out.2.2.1 hk1 hlt⟩
          case measure => simp [intOf]; omega
        · obtain rfl : k = 64 := by omega
          have CE := Lib.hid (show (HS.mk s.st s.n (canonTo s 64)) = canonH s by rw [canonTo_end SO.out.2.2.1]; rfl)
          have R1 := Lib.hid (show Row wr w.heap.size 154 (hsL (canonH s)) by rw [← CE.out]; exact hP.r1)
          have RG := Lib.hid R1.out.range
          have LEN := Lib.hid (hsL_len (canonH_range SO.out).2.2.1)
          have TH := Lib.hid (show wr.there (w.heap.size + 1) 0 73 from hP.r2.there)
          have KEY := Lib.hid (show Row (wr.setCells (w.heap.size + 1) 0 (hsL (canonH s))) (w.heap.size + 1) 154 (hsL (canonH s)) ∧ Below w.heap.size w (wr.setCells (w.heap.size + 1) 0 (hsL (canonH s))) from
            ⟨hP.r2.setAll _ (by rw [LEN.out]; rfl), below_setCells (by omega) _ _ _ hP.bw⟩)
          have ONE := Lib.hid (hsL_one (canonH s))
          clear hP HP CE hk1 hk2
          generalize hL : hsL (canonH s) = L at *
          have LE := Lib.hid hL
          clear hL
          go_wp2_with (first
            | (with_reducible refine wpList_load_mid rfl 154 (.tmp 1) rfl w.heap.size 0 rfl L _ RG.out Tryz.underlying154 ?ld ?li ?_)
            | (with_reducible refine wpList_store_mid rfl 154 (.tmp 2) (.tmp 15) rfl (w.heap.size + 1) 0 _ rfl rfl ?ht ?hi ?h1 ?_))
          case ld => rfl
          case li => rw [LEN.out]; exact info32
          case ht => rw [show L.toArray.size = 73 from LEN.out]; exact TH.out
          case hi => rw [show L.toArray.size = 73 from LEN.out]; exact info32
          case h1 => exact ONE.out
          exact bodyPost_ret (results_cell rfl _ _ _ (w.heap.size + 1) L _ rfl KEY.out.1.range Tryz.underlying154 rfl (by rw [LEN.out]; exact info32)) rfl ⟨by rw [LE.out], KEY.out.2⟩
/-- string(b) of an argument. -/
theorem conv_bs {w : World} {B : Nat} {A : Option Addr} {n c : Nat} {bs : List Int} (hA : Bs w B A bs) (hb : By bs) (hn : bs.length = n) : (convert 31 9 (.slice A n c)).run Tryz.prog w = .ok (.string (strOfNums bs)) w := by
  cases A with
  | none =>
    obtain rfl : bs = [] := by
      rcases Nat.eq_zero_or_pos bs.length with h | h
      · exact List.eq_nil_of_length_eq_zero h
      · obtain ⟨_, e, _⟩ := hA h; cases e
    exact run_convert_bytes_nil w 31 5 Tryz.underlying31 Tryz.underlying5 n c 9 Tryz.underlying9
  | some ad =>
    have h := run_convert_bytes_back (P := Tryz.prog) w 31 9 5 ad c (bs.map fun x => UInt8.ofNat x.toNat) Tryz.underlying31 Tryz.underlying5 Tryz.underlying9 (fun j hj => by
      have hj' : j < bs.length := by simpa using hj
      obtain ⟨ad', e, _, hc⟩ := hA (by omega)
      cases e
      have hx := h_at hb hj'
      rw [hc j _ (List.getElem?_eq_getElem hj')]
      simp only [List.getElem_map, UInt8.toNat_ofNat']
      congr 2
      omega)
    rw [List.length_map, hn] at h
    exact h
where
  h_at {bs : List Int} (hb : By bs) {j : Nat} (hj : j < bs.length) : 0 ≤ bs[j] ∧ bs[j] < 256 := hb _ (List.getElem_mem hj)
theorem sl_dig (n : Int) (h0 : 0 ≤ n) (h1 : n < 16) (w : World) : (Instr.slice 9 (.string ⟨#[48, 49, 50, 51, 52, 53, 54, 55, 56, 57, 97, 98, 99, 100, 101, 102]⟩) (some (.int .i64 n)) (some (.int .i64 (n + 1))) none).run Tryz.prog w = .ok (.string (strOfNums [hexC n])) w := by
  obtain ⟨k, rfl⟩ := Int.eq_ofNat_of_zero_le h0
  rcases k with _ | _ | _ | _ | _ | _ | _ | _ | _ | _ | _ | _ | _ | _ | _ | _ | k
  all_goals first | omega | kernel_rfl
def RHR (w : World) (bs : List Int) (m : Nat) (v v4 : Value) (wr : World) : Prop := ∃ k : Nat, k ≤ m ∧ v = .string (strOfNums (hexL (bs.take k))) ∧ v4 = .int .i64 k ∧ ∃ q, w.drewN q = wr
set_option maxRecDepth 100000 in
theorem refhex_any (A : Option Addr) (m c : Nat) (bs : List Int) (w : World) (hb : By bs) (hA : Bs w w.heap.size A bs) (hm : bs.length = m) (hM : m ≤ 16000000) :
    Calls Tryz.prog 89 #[.slice A m c] w fun e w' => e = .returned (.string (strOfNums (hexL bs))) ∧ Below w.heap.size w w' := by
  have HB := Lib.hid hb; have HA := Lib.hid hA; have HM := Lib.hid hm
  clear hb hA hm
  go_enter Tryz.func89, Tryz.ntmps89
  go_wp2_with fail
  go_loopw [3, 4] (fun v v4 wr => RHR w bs m v v4 wr) (fun _ v _ => m - (intOf v).toNat)
  case atStart => exact ⟨0, Nat.zero_le _, rfl, rfl, 0, rfl⟩
  case round =>
    obtain ⟨k, hk, rfl, rfl, q, rfl⟩ := hrel
    by_cases hlt : k < m
    · obtain ⟨ad, rfl, hab, hac⟩ := HA.out (by rw [HM.out]; omega)
      have hx1 : bs[k]? = some (bs.getD k 0) := getD_some (by rw [HM.out]; exact hlt)
      have hx2 := HB.out _ (List.mem_of_getElem? hx1)
      have hcell := hac k _ hx1
      have SN := Lib.hid (take_snocI bs (k := k) (by rw [HM.out]; exact hlt))
      have SZ := Lib.hid (show (strOfNums (hexL (bs.take k))).size = 2 * k by rw [strOfNums_size, hexL_len, List.length_take, HM.out]; omega)
      clear hac hx1 hab
      generalize bs.getD k 0 = x at *
      have x0 := hx2.1
      have x1 := hx2.2
      clear hx2
      have hd : decide ((k : Int) < (m : Int)) = true := by simp; omega
      have k0 : (0 : Int) ≤ (k : Int) := by omega
      have k1 : (k : Int) < (m : Int) := by omega
      generalize hS : strOfNums (hexL (bs.take k)) = S at *
      have SE := Lib.hid hS
      clear hS
      go_wp2_with fail
      go_quiet (fail)
      go_wp2_with fail
      have e1 := fun w => sl_dig (x / 16) (by omega) (by omega) w
      have e2 := fun w => sl_dig (x % 16) (by omega) (by omega) w
      have a1 := fun w => run_string_add_sum (P := Tryz.prog) w S (strOfNums [hexC (x / 16)]) (by rw [SZ.out, strOfNums_size]; simp; omega)
      have a2 := fun w => run_string_add_sum (P := Tryz.prog) w (S ++ strOfNums [hexC (x / 16)]) (strOfNums [hexC (x % 16)]) (by rw [ByteArray.size_append, SZ.out, strOfNums_size, strOfNums_size]; simp; omega)
      have v1 : IntKind.i64.wrap (x / 16 + 1) = x / 16 + 1 := IntWalk.i64_in _ (by omega)
      have v2 : IntKind.i64.wrap (x % 16 + 1) = x % 16 + 1 := IntWalk.i64_in _ (by omega)
      go_quiet (fail)
      go_wp2_with fail
      clear e1 e2 a1 a2 v1 v2
      go_roundw
      case rel =>
        refine ⟨k + 1, by omega, ?_, by go_num, _, rfl⟩
        rw [SN.out, hexL_snoc, ← SE.out, str_app, str_app]
        simp
      case measure => simp [intOf]; omega
    · obtain rfl : k = m := by omega
      have TE := Lib.hid (show bs.take k = bs from List.take_of_length_le (by rw [HM.out]; omega))
      rw [TE.out]
      go_wp2_with fail
      go_ret
      exact ⟨rfl, below_drewN _ _⟩
theorem owns_below {w w' : World} {base : Nat} {e : TypeId} {size : Nat} {v : Value} {n : Nat} {xs : List Value} (h : w.ownsRow base e size v n xs) (hb : Below w.heap.size w w') : w'.ownsRow base e size v n xs := by
  refine ⟨h.1, ?_⟩
  rcases h.2 with h0 | ⟨g, cap, cur, h1, h2, h3, h4⟩
  · exact .inl h0
  · exact .inr ⟨g, cap, cur, h1, h2, (hb.block g (lt_of_block h3)).trans h3, h4⟩
end Go.Proofs.YtfhbpgickkibmaaGreatDoor
namespace Go.Proofs.YtfhbpgickkibmaaGreatDoor
open Go.RowKit

set_option maxRecDepth 100000 in
theorem keys_any (w : World) : Calls Tryz.prog 167 #[] w fun e w' => e = .returned (.slice (some ⟨w.heap.size, 0, none⟩) 64 64) ∧ Row w' w.heap.size 72 (U32 Ks) ∧ Below w.heap.size w w' := by
  go_enter Tryz.func167, Tryz.ntmps167
  go_wp2_with fail
  go_ret
  exact ⟨rfl, Row.new w 72 (U32 Ks), (Below.refl _ _).alloc (Nat.le_refl _) _⟩
theorem info27z : (Tryz.prog.info? 72).map (fun i => (i.size, i.zero, i.bytes)) = some (1, some (.int .u32 0), 4) := by kernel_rfl
theorem i27all : ∃ i, Tryz.prog.info? 72 = some i ∧ i.zero = some (.int .u32 0) ∧ i.size = 1 ∧ i.bytes = 4 := by
  have h := info27z
  rw [Option.map_eq_some_iff] at h
  obtain ⟨i, hi, he⟩ := h
  injection he with h1 h2
  injection h2 with h2 h3
  exact ⟨i, hi, h2, h1, h3⟩
/-- What holds in the reference's Block while the schedule grows; B: the first block of its own beyond the three. -/
structure BX (w : World) (s : St) (bs : List Int) (v : Value) (i : Nat) (wr : World) : Prop where
  r2 : Row wr w.heap.size 150 (stV s).toList
  r3 : Row wr (w.heap.size + 1) 152 (U8 bs)
  r4 : Row wr (w.heap.size + 1 + 1) 150 (U32 (List.replicate 8 0))
  o : wr.ownsRow (w.heap.size + 1 + 1 + 1) 72 1 v i (U32 (schedTo bs i))
  sz : w.heap.size + 1 + 1 + 1 ≤ wr.heap.size
  bw : Below w.heap.size w wr
theorem BX.drew {w wr : World} {s : St} {bs : List Int} {v : Value} {i : Nat} (h : BX w s bs v i wr) : BX w s bs v i wr.drew := ⟨h.r2, h.r3, h.r4, h.o, h.sz, h.bw.drew⟩
theorem BX.drewN {w wr : World} {s : St} {bs : List Int} {v : Value} {i : Nat} (h : BX w s bs v i wr) (q : Nat) : BX w s bs v i (wr.drewN q) := ⟨h.r2, h.r3, h.r4, h.o, h.sz, ⟨h.bw.os, h.bw.tape, h.bw.output, h.bw.size, h.bw.block⟩⟩
theorem BX.push {w wr w1 : World} {s : St} {bs : List Int} {v v1 : Value} {i : Nat} {x : Int} (H : BX w s bs v i wr) (hx : x = nextW bs (schedTo bs i) i) (o1 : w1.ownsRow (w.heap.size + 1 + 1 + 1) 72 1 v1 (i + 1) (U32 (schedTo bs i) ++ [.int .u32 x]))
    (hg : (wr.alloc (.cells #[.int .u32 x] 72)).grownBy w1 v.ownBlock) : BX w s bs v1 (i + 1) w1 := by
  have hs := H.sz
  have hob := own_block H.o
  have key : ∀ b, b < w.heap.size + 1 + 1 + 1 → w1.heap[b]? = wr.heap[b]? := fun b hb => by
    rw [hg.block b (by simp; omega) (fun e => by have := hob b e.symm; omega)]
    exact ((Below.refl wr.heap.size wr).alloc (Nat.le_refl _) _).block b (by omega)
  refine ⟨H.r2.of (key _ (by omega)), H.r3.of (key _ (by omega)), H.r4.of (key _ (by omega)), ?_, ?_, ?_⟩
  · rw [schedTo, ← hx]
    unfold U32 at o1 ⊢
    rw [List.map_append]
    exact o1
  · have := hg.size
    simp at this
    omega
  · exact (H.bw.alloc H.bw.size _).grown hg (by simp; omega) (fun k hk => by have := hob k hk; omega)
/-- The same as one step of a region that draws. -/
theorem step_append_word {w : World} {ops : Array Oper} {o : Oper} {a : Act} {K : Act → World → Prop} {Q : Exit → Act → World → Prop} {E : Prop} (hgd : o.guard = none) (s x : Operand)
    (ho : o.op = .call { callee := .builtin .append, args := #[s, x], argTypes := #[71, 71] }) (base : Nat) (v : Value) (n : Nat) (xs : List Value) (hs : a.eval s = v) (hown : w.ownsRow base 72 1 v n xs)
    (b : Nat) (y : Int) (hx : a.eval x = .slice (some ⟨b, 0, none⟩) 1 1) (hB : Row w b 72 [.int .u32 y]) (hbound : n ≤ 1000) (hbase : base ≤ w.heap.size)
    (h : ∀ v' w', w'.ownsRow base 72 1 v' (n + 1) (xs ++ [.int .u32 y]) → w.grownBy w' v.ownBlock → K (a.put o.dst v') w') :
    if Region.wanted o (yielded ops a.tmps) = true then Oper.wp Tryz.prog o a w K Q else E := by
  have hw : Region.wanted o (yielded ops a.tmps) = true := by simp [Region.wanted, hgd]
  rw [if_pos hw]
  obtain ⟨i, hi, hz, hsz, hby⟩ := i27all
  refine wp_append_own w s x 71 ho base 72 i (.int .u32 0) 1 4 Tryz.underlying71 hi hz hsz hby rfl (by decide) v n xs hs hown ⟨b, 0, none⟩ 1 1 [.int .u32 y] hx rfl (news_row hB) (fun u hu => ?_) (by unfold maxLen; omega) (by omega) hbase ?_
  · rw [List.mem_singleton] at hu; subst hu; rfl
  · intro v' w' h1 h2 _
    exact h v' w' h1 h2
theorem grown_drew {X w1 : World} {r : Option Nat} (h : X.drew.grownBy w1 r) : X.grownBy w1 r := ⟨h.os, h.tape, h.output, h.size, h.block⟩
/-- An owned row's cells. -/
theorem owns_at {w : World} {base : Nat} {v : Value} {n : Nat} {xs : List Int} (h : w.ownsRow base 72 1 v n (U32 xs)) (hn : 0 < n) : ∃ g cap, v = .slice (some ⟨g, 0, none⟩) n cap ∧ n ≤ cap ∧ base ≤ g ∧ ∀ j, j < n → w.cell? ⟨g, j, none⟩ = some (.int .u32 (xs.getD j 0)) := by
  have hl : xs.length = n := by have := h.1; simpa [U32] using this
  rcases h.2 with ⟨_, h0⟩ | ⟨g, cap, cur, rfl, hb, hg, hc, _, hs, ht⟩
  · omega
  · refine ⟨g, cap, rfl, hc, hb, fun j hj => ?_⟩
    rw [cell_of_row w g j cur 72 (0, 0) hg]
    have h2 : (cur.toList.take (n * 1))[j]? = (U32 xs)[j]? := by rw [ht]
    rw [List.getElem?_take, if_pos (by omega), U32_get (getD_some (by omega))] at h2
    simpa using h2
theorem owns_cell {w : World} {base g n cap : Nat} {e : TypeId} {xs : List Value} (h : w.ownsRow base e 1 (.slice (some ⟨g, 0, none⟩) n cap) n xs) {j : Nat} {u : Value} (hu : xs[j]? = some u) : w.cell? ⟨g, j, none⟩ = some u := by
  rcases h.2 with ⟨h0, _⟩ | ⟨g', cap', cur, hv, hb, hg, hc, _, hs, ht⟩
  · cases h0
  · cases hv
    have hj : j < xs.length := (List.getElem?_eq_some_iff.1 hu).1
    have hl := h.1
    rw [cell_of_row w g j cur e (0, 0) hg]
    have h2 : (cur.toList.take (n * 1))[j]? = xs[j]? := by rw [ht]
    rw [List.getElem?_take, if_pos (by omega), hu] at h2
    simpa using h2
/-- append of a word: what was in the old row is there still. -/
theorem step_append_word2 {w : World} {ops : Array Oper} {o : Oper} {a : Act} {K : Act → World → Prop} {Q : Exit → Act → World → Prop} {E : Prop} (hgd : o.guard = none) (s x : Operand)
    (ho : o.op = .call { callee := .builtin .append, args := #[s, x], argTypes := #[71, 71] }) (base g n cap : Nat) (xs : List Value) (hs : a.eval s = .slice (some ⟨g, 0, none⟩) n cap) (hown : w.ownsRow base 72 1 (.slice (some ⟨g, 0, none⟩) n cap) n xs)
    (b : Nat) (y : Int) (hx : a.eval x = .slice (some ⟨b, 0, none⟩) 1 1) (hB : Row w b 72 [.int .u32 y]) (hbound : n ≤ 1000) (hbase : base ≤ w.heap.size)
    (h : ∀ v' w', w'.ownsRow base 72 1 v' (n + 1) (xs ++ [.int .u32 y]) → w.grownBy w' (some g) → (∀ j u, xs[j]? = some u → w'.cell? ⟨g, j, none⟩ = some u) → K (a.put o.dst v') w') :
    if Region.wanted o (yielded ops a.tmps) = true then Oper.wp Tryz.prog o a w K Q else E := by
  have hw : Region.wanted o (yielded ops a.tmps) = true := by simp [Region.wanted, hgd]
  rw [if_pos hw]
  obtain ⟨i, hi, hz, hsz, hby⟩ := i27all
  have one : ∀ u ∈ [Value.int .u32 y], u.oneCell' = true := fun u hu => by rw [List.mem_singleton] at hu; subst hu; rfl
  by_cases hroom : n + 1 ≤ cap
  · obtain ⟨w', hr, h2, h3⟩ := run_append_own_spare (P := Tryz.prog) w base 71 o.type 72 i 1 Tryz.underlying71 hi hsz g n cap xs hown ⟨b, 0, none⟩ 1 1 [.int .u32 y] rfl (news_row hB) one hroom
    unfold Oper.wp execOp
    simp only [ho, resolve, invoke, builtin, Sem.run_bind, Sem.run_pure, Result.andThen_ok, List.map_toArray, List.map_cons, List.map_nil, hs, hx, hr]
    refine h _ w' h2 h3 (fun j u hu => owns_cell h2 ?_)
    rw [List.getElem?_append_left (List.getElem?_eq_some_iff.1 hu).1]
    exact hu
  · have hlo := hown.1
    obtain ⟨v', w', hr, h2, h3⟩ := run_append_arg_grows (P := Tryz.prog) w 71 o.type 72 i (.int .u32 0) 1 4 Tryz.underlying71 hi hz hsz hby rfl (by decide) ⟨g, 0, none⟩ n cap xs hlo
      (fun j u hu => by rw [Addr.add_mid, Nat.zero_add]; exact owns_cell hown hu) ⟨b, 0, none⟩ 1 1 [.int .u32 y] rfl (news_row hB) (by omega) (by unfold maxLen; omega) (by omega)
    unfold Oper.wp execOp
    simp only [ho, resolve, invoke, builtin, Sem.run_bind, Sem.run_pure, Result.andThen_ok, List.map_toArray, List.map_cons, List.map_nil, hs, hx, hr]
    refine h v' w' ⟨h2.1, ?_⟩ ⟨h3.os, h3.tape, h3.output, h3.size, fun k hk _ => h3.block k hk (by simp)⟩ (fun j u hu => ?_)
    · rcases h2.2 with q | ⟨g', cap', cur, q1, q2, q3⟩
      · exact .inl q
      · exact .inr ⟨g', cap', cur, q1, Nat.le_trans hbase q2, q3⟩
    · have hc := owns_cell hown hu
      rw [World.cell?_of_block (w := w) (a := ⟨g, j, none⟩) (h3.block g (block_lt_of_cell hc) (by simp))]
      exact hc
theorem BX.base {w wr : World} {s : St} {bs : List Int} {v : Value} {i : Nat} (H : BX w s bs v i wr) (o : Obj) : w.heap.size + 1 + 1 + 1 ≤ (wr.alloc o).heap.size := by have := H.sz; simp; omega
theorem BX.cells {w wr : World} {s : St} {bs : List Int} {v : Value} {i j0 j1 j2 j3 : Nat} {x0 x1 x2 x3 : Int} (H : BX w s bs v i wr) (h0 : bs[j0]? = some x0) (h1 : bs[j1]? = some x1) (h2 : bs[j2]? = some x2) (h3 : bs[j3]? = some x3) :
    wr.cell? ⟨w.heap.size + 1, j0, none⟩ = some (.int .u8 x0) ∧ wr.cell? ⟨w.heap.size + 1, j1, none⟩ = some (.int .u8 x1) ∧ wr.cell? ⟨w.heap.size + 1, j2, none⟩ = some (.int .u8 x2) ∧ wr.cell? ⟨w.heap.size + 1, j3, none⟩ = some (.int .u8 x3) :=
  ⟨(H.r3.cell _).trans (U8_get h0), (H.r3.cell _).trans (U8_get h1), (H.r3.cell _).trans (U8_get h2), (H.r3.cell _).trans (U8_get h3)⟩
theorem grown_any {X Y w1 : World} {r : Option Nat} (h : Y.grownBy w1 r) (h1 : Y.heap = X.heap) (h2 : Y.os = X.os) (h3 : Y.tape = X.tape) (h4 : Y.output = X.output) : X.grownBy w1 r :=
  ⟨h.os.trans h2, h.tape.trans h3, h.output.trans h4, by rw [← h1]; exact h.size, fun k hk hr => by rw [← h1] at hk ⊢; exact h.block k hk hr⟩
theorem u32w {z : Int} (h0 : 0 ≤ z) (h1 : z < 4294967296) : IntKind.u32.wrap z = z := by rw [IntKind.wrap_u32]; omega
theorem nw_eq {n a b c d : Int} (h : n = AD (AD (AD a b) c) d) : IntKind.u32.wrap (IntKind.u32.wrap (IntKind.u32.wrap (a + b) + c) + d) = n := by
  rw [h]; simp only [IntKind.wrap_u32]; rfl
/-- What holds in the rounds; B: the block of the keys. -/
structure B3 (w : World) (B : Nat) (s : St) (bs : List Int) (v : Value) (wr : World) : Prop where
  r2 : Row wr w.heap.size 150 (stV s).toList
  r4 : Row wr (w.heap.size + 1 + 1) 150 (U32 (List.replicate 8 0))
  o : wr.ownsRow (w.heap.size + 1 + 1 + 1) 72 1 v 64 (U32 (schedTo bs 64))
  rk : Row wr B 72 (U32 Ks)
  bw : Below w.heap.size w wr
theorem B3.drewN {w wr : World} {B : Nat} {s : St} {bs : List Int} {v : Value} (h : B3 w B s bs v wr) (q : Nat) : B3 w B s bs v (wr.drewN q) := ⟨h.r2, h.r4, h.o, h.rk, ⟨h.bw.os, h.bw.tape, h.bw.output, h.bw.size, h.bw.block⟩⟩
def IsSt (r : St) (va vb vc vd ve vf vg vh : Value) : Prop := va = .int .u32 r.a ∧ vb = .int .u32 r.b ∧ vc = .int .u32 r.c ∧ vd = .int .u32 r.d ∧ ve = .int .u32 r.e ∧ vf = .int .u32 r.f ∧ vg = .int .u32 r.g ∧ vh = .int .u32 r.h
def B3R (w : World) (B : Nat) (s : St) (bs : List Int) (v : Value) (va vb vc vd ve vf vg vh v17 : Value) (wr : World) : Prop :=
  ∃ i : Nat, i ≤ 64 ∧ v17 = .int .i64 i ∧ IsSt (roundTo Ks (schedTo bs 64) s i) va vb vc vd ve vf vg vh ∧ B3 w B s bs v wr
def BXR (w : World) (s : St) (bs : List Int) (lo hi : Nat) (v v6 : Value) (wr : World) : Prop := ∃ (i : Nat) (x : Value), lo ≤ i ∧ i ≤ hi ∧ x = v ∧ v6 = .int .i64 i ∧ BX w s bs x i wr
set_option maxRecDepth 100000 in
set_option maxHeartbeats 4000000 in
theorem refblock_any (s : St) (bs : List Int) (w : World) (hb : Bytes bs) (hs : StR s) : Calls Tryz.prog 148 #[.agg (stV s), .agg (U8 bs).toArray] w fun e w' => e = .returned (.agg (stV (blockS s bs))) ∧ Below w.heap.size w w' := by
  have HB := Lib.hid hb; have SR := Lib.hid hs
  clear hb hs
  unfold stV
  go_enter Tryz.func148, Tryz.ntmps148
  go_wp2_with fail
  go_loopw [5, 6] (fun v v6 wr => BXR w s bs 0 16 v v6 wr) (fun _ v _ => 16 - (intOf v).toNat)
  case atStart =>
    refine ⟨0, _, by omega, by omega, rfl, rfl, ?_, ?_, ?_, World.ownsRow_nil _ _ _ _, by simp, ?_⟩
    · exact ((Row.new w 150 (stV s).toList).alloc _).alloc _
    · have h := Row.new (w.alloc (.cells (stV s) 150)) 152 (U8 bs)
      rw [World.size_alloc] at h
      exact h.alloc _
    · have h := Row.new ((w.alloc (.cells (stV s) 150)).alloc (.cells (U8 bs).toArray 152)) 150 (U32 (List.replicate 8 0))
      rw [World.size_alloc, World.size_alloc] at h
      exact h
    · exact (((Below.refl _ _).alloc (Nat.le_refl _) _).alloc (by simp) _).alloc (by simp; omega) _
  case round =>
    obtain ⟨i, v, _, hi, rfl, rfl, hP⟩ := hrel
    have HP := Lib.hid hP
    by_cases hlt : i < 16
    ·
      -- [[A
      obtain ⟨e0, p0, p1⟩ := HB.out.at_ (i := 4 * i) (by omega)
      obtain ⟨e1, p2, p3⟩ := HB.out.at_ (i := 4 * i + 1) (by omega)
      obtain ⟨e2, p4, p5⟩ := HB.out.at_ (i := 4 * i + 2) (by omega)
      obtain ⟨e3, p6, p7⟩ := HB.out.at_ (i := 4 * i + 3) (by omega)
      have a0 := (hP.r3.cell (4 * i)).trans (U8_get e0)
      have a1 := (hP.r3.cell (4 * i + 1)).trans (U8_get e1)
      have a2 := (hP.r3.cell (4 * i + 2)).trans (U8_get e2)
      have a3 := (hP.r3.cell (4 * i + 3)).trans (U8_get e3)
      have NW := Lib.hid (show nextW bs (schedTo bs i) i = word bs i by rw [nextW, if_pos hlt])
      have WD := Lib.hid (show word bs i = bs.getD (4 * i) 0 * 16777216 + bs.getD (4 * i + 1) 0 * 65536 + bs.getD (4 * i + 2) 0 * 256 + bs.getD (4 * i + 3) 0 from rfl)
      have A0 := Lib.hid e0; have A1 := Lib.hid e1; have A2 := Lib.hid e2; have A3 := Lib.hid e3
      generalize bs.getD (4 * i) 0 = x0 at *
      generalize bs.getD (4 * i + 1) 0 = x1 at *
      generalize bs.getD (4 * i + 2) 0 = x2 at *
      generalize bs.getD (4 * i + 3) 0 = x3 at *
      clear e0 e1 e2 e3 hP
      have j0 : (0 : Int) ≤ 4 * (i : Int) := by omega
      have j1 : 4 * (i : Int) < 64 := by omega
      have j2 : (0 : Int) ≤ 4 * (i : Int) + 1 := by omega
      have j3 : 4 * (i : Int) + 1 < 64 := by omega
      have j4 : (0 : Int) ≤ 4 * (i : Int) + 2 := by omega
      have j5 : 4 * (i : Int) + 2 < 64 := by omega
      have j6 : (0 : Int) ≤ 4 * (i : Int) + 3 := by omega
      have j7 : 4 * (i : Int) + 3 < 64 := by omega
      have t0 : (4 * (i : Int)).toNat = 4 * i := by omega
      have t1 : (4 * (i : Int) + 1).toNat = 4 * i + 1 := by omega
      have t2 : (4 * (i : Int) + 2).toNat = 4 * i + 2 := by omega
      have t3 : (4 * (i : Int) + 3).toNat = 4 * i + 3 := by omega
      have v0 : IntKind.i64.wrap (4 * (i : Int)) = 4 * (i : Int) := IntWalk.i64_in _ (by omega)
      have v1 : IntKind.i64.wrap (4 * (i : Int) + 1) = 4 * (i : Int) + 1 := IntWalk.i64_in _ (by omega)
      have v2 : IntKind.i64.wrap (4 * (i : Int) + 2) = 4 * (i : Int) + 2 := IntWalk.i64_in _ (by omega)
      have v3 : IntKind.i64.wrap (4 * (i : Int) + 3) = 4 * (i : Int) + 3 := IntWalk.i64_in _ (by omega)
      have hd : decide ((i : Int) < 16) = true := by simp; omega
      have ib : i ≤ 1000 := by omega
      have c0 := u32w (z := x0) p0 (by omega)
      have c1 := u32w (z := x1) p2 (by omega)
      have c2 := u32w (z := x2) p4 (by omega)
      have c3 := u32w (z := x3) p6 (by omega)
      have m0 := u32w (z := x0 * 16777216) (by omega) (by omega)
      have m1 := u32w (z := x1 * 65536) (by omega) (by omega)
      have m2 := u32w (z := x2 * 256) (by omega) (by omega)
      have n1 := u32w (z := x0 * 16777216 + x1 * 65536) (by omega) (by omega)
      have n2 := u32w (z := x0 * 16777216 + x1 * 65536 + x2 * 256) (by omega) (by omega)
      have n3 := u32w (z := x0 * 16777216 + x1 * 65536 + x2 * 256 + x3) (by omega) (by omega)
      go_wp2_with fail
      go_region_held3 (fun w' => w'.cell? ⟨w.heap.size + 1, 4 * i, none⟩ = some (.int .u8 x0) ∧ w'.cell? ⟨w.heap.size + 1, 4 * i + 1, none⟩ = some (.int .u8 x1) ∧ w'.cell? ⟨w.heap.size + 1, 4 * i + 2, none⟩ = some (.int .u8 x2) ∧ w'.cell? ⟨w.heap.size + 1, 4 * i + 3, none⟩ = some (.int .u8 x3)) (first | go_keep | with_reducible exact KS.out) ((refine step_append_word rfl (.tmp 24) (.tmp 54) rfl (w.heap.size + 1 + 1 + 1) v i (U32 (schedTo bs i)) rfl (HP.out.o.alloc _) wr.heap.size (x0 * 16777216 + x1 * 65536 + x2 * 256 + x3) rfl (Row.new wr 72 _) ib (HP.out.base _) ?_; intro va wa o1 g1; have KEY := Lib.hid (HP.out.push (by rw [NW.out, WD.out]) o1 (grown_drew g1)); have KS := Lib.hid (KEY.out.cells A0.out A1.out A2.out A3.out); clear o1 g1))
      clear t0 t1 t2 t3 v0 v1 v2 v3 c0 c1 c2 c3 m0 m1 m2 n1 n2 n3
      go_wp2_with fail
      go_roundw
      case rel => exact ⟨i + 1, _, by omega, by omega, rfl, by go_num, KEY.out⟩
      case measure => simp [intOf]; omega
      -- ]]A
    · obtain rfl : i = 16 := by omega
      rw [show ((16 : Nat) : Int) = (16 : Int) from rfl]
      clear hP
      go_wp2_with fail
      go_loopw [5, 7] (fun v v7 wr => BXR w s bs 16 64 v v7 wr) (fun _ v _ => 64 - (intOf v).toNat)
      case atStart => exact ⟨16, _, by omega, by omega, rfl, rfl, HP.out⟩
      case round =>
        clear HP hlt hi
        obtain ⟨i, v, hlo, hi, rfl, rfl, hP⟩ := hrel
        have HP := Lib.hid hP
        clear hP
        by_cases hlt : i < 64
        ·
          -- [[B
          obtain ⟨g, cap, rfl, hcap, hg, hcell⟩ := owns_at HP.out.o (by omega)
          have hw := fun (q : Nat) (hq : q < i) => sched_at bs i 0 hq HB.out
          obtain ⟨_, p0, p1⟩ := hw (i - 2) (by omega)
          obtain ⟨_, p2, p3⟩ := hw (i - 7) (by omega)
          obtain ⟨_, p4, p5⟩ := hw (i - 15) (by omega)
          obtain ⟨_, p6, p7⟩ := hw (i - 16) (by omega)
          have GE := Lib.hid (fun (j : Nat) (hj : j < i) => (show (U32 (schedTo bs i))[j]? = some (.int .u32 ((schedTo bs i).getD j 0)) from U32_get (getD_some (by rw [schedTo_length]; exact hj))))
          have G2 := Lib.hid (GE.out (i - 2) (by omega)); have G7 := Lib.hid (GE.out (i - 7) (by omega)); have G15 := Lib.hid (GE.out (i - 15) (by omega)); have G16 := Lib.hid (GE.out (i - 16) (by omega))
          clear GE
          have a2 := hcell (i - 2) (by omega)
          have a7 := hcell (i - 7) (by omega)
          have a15 := hcell (i - 15) (by omega)
          have a16 := hcell (i - 16) (by omega)
          have NW := Lib.hid (show nextW bs (schedTo bs i) i = AD (AD (AD (sm1 ((schedTo bs i).getD (i - 2) 0)) ((schedTo bs i).getD (i - 7) 0)) (sm0 ((schedTo bs i).getD (i - 15) 0))) ((schedTo bs i).getD (i - 16) 0) by
            rw [nextW, if_neg (by omega)])
          generalize (schedTo bs i).getD (i - 2) 0 = x2 at *
          generalize (schedTo bs i).getD (i - 7) 0 = x7 at *
          generalize (schedTo bs i).getD (i - 15) 0 = x15 at *
          generalize (schedTo bs i).getD (i - 16) 0 = x16 at *
          clear hw hcell
          have j0 : (0 : Int) ≤ (i : Int) - 2 := by omega
          have j1 : (i : Int) - 2 < (i : Int) := by omega
          have j2 : (0 : Int) ≤ (i : Int) - 7 := by omega
          have j3 : (i : Int) - 7 < (i : Int) := by omega
          have j4 : (0 : Int) ≤ (i : Int) - 15 := by omega
          have j5 : (i : Int) - 15 < (i : Int) := by omega
          have j6 : (0 : Int) ≤ (i : Int) - 16 := by omega
          have j7 : (i : Int) - 16 < (i : Int) := by omega
          have t0 : ((i : Int) - 2).toNat = i - 2 := by omega
          have t1 : ((i : Int) - 7).toNat = i - 7 := by omega
          have t2 : ((i : Int) - 15).toNat = i - 15 := by omega
          have t3 : ((i : Int) - 16).toNat = i - 16 := by omega
          have w0 : IntKind.i64.wrap ((i : Int) - 2) = (i : Int) - 2 := IntWalk.i64_in _ (by omega)
          have w1 : IntKind.i64.wrap ((i : Int) - 7) = (i : Int) - 7 := IntWalk.i64_in _ (by omega)
          have w2 : IntKind.i64.wrap ((i : Int) - 15) = (i : Int) - 15 := IntWalk.i64_in _ (by omega)
          have w3 : IntKind.i64.wrap ((i : Int) - 16) = (i : Int) - 16 := IntWalk.i64_in _ (by omega)
          have l2 : (2 : Int) ≤ (i : Int) := by omega
          have l7 : (7 : Int) ≤ (i : Int) := by omega
          have l15 : (15 : Int) ≤ (i : Int) := by omega
          have l16 : (16 : Int) ≤ (i : Int) := by omega
          have hd : decide ((i : Int) < 64) = true := by simp; omega
          have ib : i ≤ 1000 := by omega
          go_wp2_with fail
          go_region_held3 (fun w' => w'.cell? ⟨g, i - 2, none⟩ = some (.int .u32 x2) ∧ w'.cell? ⟨g, i - 7, none⟩ = some (.int .u32 x7) ∧ w'.cell? ⟨g, i - 15, none⟩ = some (.int .u32 x15) ∧ w'.cell? ⟨g, i - 16, none⟩ = some (.int .u32 x16)) (first | go_keep | with_reducible exact KS.out) ((first
            | ((refine step_append_word2 rfl (.tmp 60) (.tmp 86) rfl (w.heap.size + 1 + 1 + 1) g i cap (U32 (schedTo bs i)) rfl (HP.out.o.alloc _) wr.heap.size _ rfl (Row.new wr 72 _) ib (HP.out.base _) ?_); intro va wa o1 g1 k1; have KS := Lib.hid (And.intro (k1 _ _ G2.out) (And.intro (k1 _ _ G7.out) (And.intro (k1 _ _ G15.out) (k1 _ _ G16.out)))); have KEY := Lib.hid (HP.out.push (nw_eq NW.out) o1 (grown_any g1 rfl rfl rfl rfl)); clear o1 g1 k1)
            | ((go_at_call 165); (with_reducible refine (sm1_any x2 _ p0 p1).mono ?_); (rintro e w' ⟨rfl, q, rfl⟩))
            | ((go_at_call 166); (with_reducible refine (sm0_any x15 _ p4 p5).mono ?_); (rintro e w' ⟨rfl, q, rfl⟩))))
          all_goals
            clear t0 t1 t2 t3 w0 w1 w2 w3
            go_wp2_with fail
            go_roundw
            case rel => exact ⟨i + 1, _, by omega, by omega, rfl, by go_num, KEY.out⟩
            case measure => simp [intOf]; omega
          -- ]]B
        · obtain rfl : i = 64 := by omega
          rw [show ((64 : Nat) : Int) = (64 : Int) from rfl]
          clear hlt hi hlo
          go_wp2_with fail
          refine (keys_any wr).mono ?_
          rintro e wk ⟨rfl, hrk, hbk⟩
          obtain ⟨B, hB⟩ : ∃ B, B = wr.heap.size := ⟨_, rfl⟩
          rw [← hB] at hrk ⊢
          have K3 := Lib.hid (show B3 w B s bs v wk from ⟨HP.out.r2.below hbk, HP.out.r4.below hbk, owns_below HP.out.o hbk, hrk, HP.out.bw.trans (hbk.mono HP.out.bw.size)⟩)
          clear hB hrk hbk HP
          have c0 : wk.cell? ⟨w.heap.size, 0, none⟩ = some (.int .u32 s.a) := K3.out.r2.cell 0
          have c1 : wk.cell? ⟨w.heap.size, 1, none⟩ = some (.int .u32 s.b) := K3.out.r2.cell 1
          have c2 : wk.cell? ⟨w.heap.size, 2, none⟩ = some (.int .u32 s.c) := K3.out.r2.cell 2
          have c3 : wk.cell? ⟨w.heap.size, 3, none⟩ = some (.int .u32 s.d) := K3.out.r2.cell 3
          have c4 : wk.cell? ⟨w.heap.size, 4, none⟩ = some (.int .u32 s.e) := K3.out.r2.cell 4
          have c5 : wk.cell? ⟨w.heap.size, 5, none⟩ = some (.int .u32 s.f) := K3.out.r2.cell 5
          have c6 : wk.cell? ⟨w.heap.size, 6, none⟩ = some (.int .u32 s.g) := K3.out.r2.cell 6
          have c7 : wk.cell? ⟨w.heap.size, 7, none⟩ = some (.int .u32 s.h) := K3.out.r2.cell 7
          obtain ⟨g, cap, rfl, hcap, hg, hcell⟩ := owns_at K3.out.o (by omega)
          clear hcell
          go_wp2_with fail
          go_quiet (fail)
          clear c0 c1 c2 c3 c4 c5 c6 c7
          go_wp2_with fail
          go_loopw [9, 10, 11, 12, 13, 14, 15, 16, 17] (fun va vb vc vd ve vf vg vh v17 wr => B3R w B s bs (.slice (some ⟨g, 0, none⟩) 64 cap) va vb vc vd ve vf vg vh v17 wr) (fun _ _ _ _ _ _ _ _ v _ => 64 - (intOf v).toNat)
          case atStart => exact ⟨0, by omega, rfl, ⟨rfl, rfl, rfl, rfl, rfl, rfl, rfl, rfl⟩, K3.out.drewN _⟩
          case round =>
            clear K3
            obtain ⟨i, hi, rfl, ⟨rfl, rfl, rfl, rfl, rfl, rfl, rfl, rfl⟩, hP⟩ := hrel
            have HP := Lib.hid hP
            by_cases hlt : i < 64
            ·
              -- [[C
              have hR := roundTo_range (s := s) SR.out (schedTo bs 64) i
              obtain ⟨g', cap', hgg, _, _, hcell⟩ := owns_at hP.o (by omega)
              cases hgg
              obtain ⟨e5, p0, p1⟩ := sched_at bs 64 0 hlt HB.out
              have a5 := hcell i hlt
              have ak : wr.cell? ⟨B, i, none⟩ = some (.int .u32 (Ks.getD i 0)) := (hP.rk.cell i).trans (U32_get (getD_some hlt))
              have NX := Lib.hid (show roundTo Ks (schedTo bs 64) s (i + 1) = rnd (Ks.getD i 0) ((schedTo bs 64).getD i 0) (roundTo Ks (schedTo bs 64) s i) from rfl)
              clear e5 hcell hP
              generalize (schedTo bs 64).getD i 0 = wi at *
              generalize Ks.getD i 0 = ki at *
              generalize roundTo Ks (schedTo bs 64) s i = r at *
              have i0 : (0 : Int) ≤ (i : Int) := Int.natCast_nonneg _
              have i1 : (i : Int) < 64 := by omega
              have hd : decide ((i : Int) < 64) = true := by simp; omega
              obtain ⟨⟨ra0, ra1⟩, ⟨rb0, rb1⟩, ⟨rc0, rc1⟩, ⟨rd0, rd1⟩, ⟨re0, re1⟩, ⟨rf0, rf1⟩, ⟨rg0, rg1⟩, ⟨rh0, rh1⟩⟩ := hR
              go_upto_region 15 with fail
              go_cut [18] (fun v wx => Is (tOf ki wi r) wr v wx)
              case first =>
                go_quiet ((go_at_call 168; exact Calls.quiet_of (la1_any r.e _ re0 re1)))
                go_wp2_with fail
                go_meet
                exact ⟨by rw [t_flat], _, rfl⟩
              case rest =>
                obtain ⟨rfl, n1, rfl⟩ := hcut
                go_upto_region 16 with fail
                go_cut [19] (fun v wx => Is (uOf r) wr v wx)
                case first =>
                  go_wp2_with fail
                  refine (la0_any r.a _ ra0 ra1).mono ?_
                  rintro e w' ⟨rfl, q, rfl⟩
                  go_wp2_with fail
                  go_meet
                  exact ⟨rfl, _, rfl⟩
                case rest =>
                  obtain ⟨rfl, n2, rfl⟩ := hcut
                  have ND := Lib.hid (show rnd ki wi r = ⟨(tOf ki wi r + uOf r) % 4294967296, r.a, r.b, r.c, (r.d + tOf ki wi r) % 4294967296, r.e, r.f, r.g⟩ from rfl)
                  generalize tOf ki wi r = t at *
                  generalize uOf r = u at *
                  clear ak a5
                  go_wp2_with fail
                  go_roundw
                  case rel =>
                    refine ⟨i + 1, by omega, by go_num, ?_, HP.out.drewN _⟩
                    rw [NX.out, ND.out]
                    exact ⟨rfl, rfl, rfl, rfl, rfl, rfl, rfl, rfl⟩
                  case measure => simp [intOf]; omega
              -- ]]C
            · obtain rfl : i = 64 := by omega
              rw [show ((64 : Nat) : Int) = (64 : Int) from rfl]
              have c0 : wr.cell? ⟨w.heap.size, 0, none⟩ = some (.int .u32 s.a) := hP.r2.cell 0
              have c1 : wr.cell? ⟨w.heap.size, 1, none⟩ = some (.int .u32 s.b) := hP.r2.cell 1
              have c2 : wr.cell? ⟨w.heap.size, 2, none⟩ = some (.int .u32 s.c) := hP.r2.cell 2
              have c3 : wr.cell? ⟨w.heap.size, 3, none⟩ = some (.int .u32 s.d) := hP.r2.cell 3
              have c4 : wr.cell? ⟨w.heap.size, 4, none⟩ = some (.int .u32 s.e) := hP.r2.cell 4
              have c5 : wr.cell? ⟨w.heap.size, 5, none⟩ = some (.int .u32 s.f) := hP.r2.cell 5
              have c6 : wr.cell? ⟨w.heap.size, 6, none⟩ = some (.int .u32 s.g) := hP.r2.cell 6
              have c7 : wr.cell? ⟨w.heap.size, 7, none⟩ = some (.int .u32 s.h) := hP.r2.cell 7
              have TH := Lib.hid (show wr.there (w.heap.size + 1 + 1) 0 8 from hP.r4.there)
              have BD := Lib.hid (show blockS s bs = ⟨(s.a + (roundTo Ks (schedTo bs 64) s 64).a) % 4294967296, (s.b + (roundTo Ks (schedTo bs 64) s 64).b) % 4294967296, (s.c + (roundTo Ks (schedTo bs 64) s 64).c) % 4294967296, (s.d + (roundTo Ks (schedTo bs 64) s 64).d) % 4294967296, (s.e + (roundTo Ks (schedTo bs 64) s 64).e) % 4294967296, (s.f + (roundTo Ks (schedTo bs 64) s 64).f) % 4294967296, (s.g + (roundTo Ks (schedTo bs 64) s 64).g) % 4294967296, (s.h + (roundTo Ks (schedTo bs 64) s 64).h) % 4294967296⟩ from rfl)
              generalize roundTo Ks (schedTo bs 64) s 64 = r at *
              have KEY := Lib.hid (fun (b : St) => (show Row (wr.setCells (w.heap.size + 1 + 1) 0 (stV b).toList) (w.heap.size + 1 + 1) 150 (stV b).toList ∧ Below w.heap.size w (wr.setCells (w.heap.size + 1 + 1) 0 (stV b).toList) from
                ⟨hP.r4.setAll _ rfl, below_setCells (by omega) _ _ _ hP.bw⟩))
              clear hP HP
              go_wp2_with (with_reducible refine wpList_store_mid rfl 150 (.tmp 4) (.tmp 190) rfl (w.heap.size + 1 + 1) 0 _ rfl rfl ?ht ?hi ?h1 ?_)
              case ht => exact TH.out
              case hi => first | exact info28b | exact info28
              case h1 => simp [Value.oneCell']
              have K2 := KEY.out (blockS s bs)
              rw [BD.out] at K2 ⊢
              exact bodyPost_ret (results_cell rfl _ _ _ (w.heap.size + 1 + 1) _ _ rfl K2.1.range Tryz.underlying150 rfl info28) rfl ⟨rfl, K2.2⟩
end Go.Proofs.YtfhbpgickkibmaaGreatDoor
