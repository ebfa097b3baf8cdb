/- The contracts of hash's Sum and Text and of the reference's Hex. -/
import Derived.Test.YtfhbpgickkibmaaGreatDoorGd
import Derived.Deep.RegionLaw
import Derived.Laws.BytesArg
import Derived.Laws.IdiomStrings
import Derived.Deep.QuietTactic
import Derived.BigQuiet
import Derived.StillTailTactics
import Derived.Laws.AppendOwnNone
namespace Go.Proofs.YtfhbpgickkibmaaGreatDoor
open Go.RowKit

theorem finH_len (s : HS) : (finH s).length = 32 := outH_len _
theorem finH_by (s : HS) : By (finH s) := outH_by _
theorem info24b : ∃ a, Tryz.prog.info? 122 = some a ∧ a.size = 32 := by
  have h := info24
  rw [Option.map_eq_some_iff] at h
  exact h
def OneRow (w : World) (v : Value) (wx : World) : Prop := v = .pointer (some ⟨w.heap.size, 0, none⟩) ∧ Row wx w.heap.size 122 (U8 (List.replicate 32 0)) ∧ Below w.heap.size w wx
set_option maxRecDepth 100000 in
theorem sum_any (A : Option Addr) (m c : Nat) (bs : List Int) (w : World) (hb : By bs) (hA : Bs w w.heap.size A bs) (hm : bs.length = m) (hc : m ≤ c) (hM : m ≤ 16000000) (hK : KC w) :
    Calls Tryz.prog 69 #[.slice A m c] w fun e w' => e = .returned (.agg (U8 (sumH bs)).toArray) ∧ Below w.heap.size w w' := by
  have HB := Lib.hid hb; have HA := Lib.hid hA; have HM := Lib.hid hm; have HK := Lib.hid hK
  clear hb hA hm hK
  go_enter Tryz.func69, Tryz.ntmps69
  go_upto_region 0 with fail
  go_cut [2] (fun v wx => OneRow w v wx)
  case first =>
    go_wp2_with (with_reducible refine wpList_value rfl _ _ (exec_alloc rfl zero24) ?_)
    go_meet
    exact ⟨rfl, Row.new w 122 _, (Below.refl _ _).alloc (Nat.le_refl _) _⟩
  case rest =>
    obtain ⟨rfl, R, B1⟩ := hcut
    obtain ⟨w1, rfl⟩ : ∃ w1 : World, w1 = wc := ⟨_, rfl⟩
    have R1 := Lib.hid R; have BW := Lib.hid B1
    clear R B1
    go_wp2_with fail
    refine (start_any _).mono ?_
    rintro e w2 ⟨rfl, hb2⟩
    have BW2 := Lib.hid (BW.out.trans (hb2.mono BW.out.size))
    have R2 := Lib.hid (R1.out.below hb2)
    clear hb2 R1 BW
    go_wp2_with fail
    refine (feed_any startH A m c bs w2 startH_range HB.out ((HA.out.below BW2.out).up BW2.out.size) HM.out hc hM (HK.out.below BW2.out)).mono ?_
    rintro e w3 ⟨rfl, hb3⟩
    have BW3 := Lib.hid (BW2.out.trans (hb3.mono BW2.out.size))
    have R3 := Lib.hid (R2.out.below hb3)
    clear hb3 R2 BW2
    go_wp2_with fail
    refine (finish_any (feedH startH bs) w3 (feedH_range startH_range HB.out) (HK.out.below BW3.out)).mono ?_
    rintro e w4 ⟨rfl, hb4⟩
    have BW4 := Lib.hid (BW3.out.trans (hb4.mono BW3.out.size))
    have R4 := Lib.hid (R3.out.below hb4)
    clear hb4 R3 BW3
    have SE := Lib.hid (show sumH bs = finH (feedH startH bs) from rfl)
    have LE := Lib.hid (show (U8 (finH (feedH startH bs))).length = 32 by simp [U8, finH_len])
    have ONE := Lib.hid (U8_one (finH (feedH startH bs)))
    have KEY := Lib.hid (R4.out.setAll (U8 (finH (feedH startH bs))) (by rw [LE.out]; rfl))
    generalize finH (feedH startH bs) = f at *
    go_wp2_with (with_reducible refine wpList_store_mid rfl 122 (.tmp 2) (.tmp 6) rfl w.heap.size 0 _ rfl rfl ?ht ?hi ?h1 ?_)
    case ht => rw [show (U8 f).toArray.size = 32 from LE.out]; exact R4.out.there
    case hi => rw [show (U8 f).toArray.size = 32 from LE.out]; first | exact info24 | exact info24b
    case h1 => exact ONE.out
    exact bodyPost_ret (results_cell rfl _ _ _ w.heap.size (U8 f) _ rfl KEY.out.range Tryz.underlying122 rfl (by rw [LE.out]; exact info24)) rfl ⟨by rw [SE.out], below_setCells (Nat.le_refl _) _ _ _ BW4.out⟩
/-- []byte(s): a new block with the text's bytes. -/
theorem wpList_bytes {ops : Array Oper} {rest : List Oper} {op : Oper} {a : Act} {w : World} {Q : Exit → Act → World → Prop} (hgd : op.guard = none) (x : Operand) (ho : op.op = .convert 9 31 x) (s : ByteArray) (hx : a.eval x = .string s)
    (h : ∀ cap w', s.size ≤ cap → Bs w' w'.heap.size (some ⟨w.heap.size, 0, none⟩) (byteL s) → Below w.heap.size w w' → wpList Tryz.prog ops Q rest (a.put op.dst (.slice (some ⟨w.heap.size, 0, none⟩) s.size cap)) w') : wpList Tryz.prog ops Q (op :: rest) a w := by
  have hr := run_bytes_of_string (P := Tryz.prog) w 9 31 5 s Tryz.underlying9 Tryz.underlying31 Tryz.underlying5
  have hge := grownCap_ge w s.size 0 5
  generalize grownCap w s.size 0 5 = cap at *
  refine wpList_value hgd _ (w.drew.alloc (Obj.cells (bytesRow s cap) 5 ((bytesRow s cap).size, (bytesRow s cap).size + 1))) ?_ (h cap _ hge ?_ ?_)
  · unfold execOp
    simp only [ho, hx, Sem.run_bind, hr, Result.andThen_ok, Sem.run_pure]
  · intro _
    refine ⟨_, rfl, by simp [World.size_alloc], fun j u hu => ?_⟩
    rw [Addr.add_mid, Nat.zero_add]
    refine (World.cell?_alloc_mark w.drew _ 5 _ j).trans ?_
    have hj : j < (byteL s).length := (List.getElem?_eq_some_iff.1 hu).1
    rw [byteL_len] at hj
    unfold bytesRow
    rw [Array.getElem?_append_left (by simpa using hj)]
    unfold byteL at hu
    simp at hu ⊢
    obtain ⟨c, hc, rfl⟩ := hu
    exact ⟨c, hc, rfl⟩
  · exact ((Below.refl w.heap.size w).drew).alloc (Nat.le_refl _) _
theorem sumH_len (bs : List Int) : (sumH bs).length = 32 := finH_len _
theorem sumH_by (bs : List Int) : By (sumH bs) := finH_by _
def textH (xs : List Int) : List Int := hexL (sumH xs)
set_option maxRecDepth 100000 in
theorem htext_any (s : ByteArray) (w : World) (hM : s.size ≤ 16000000) (hK : KC w) :
    Calls Tryz.prog 34 #[.string s] w fun e w' => e = .returned (.string (strOfNums (textH (byteL s)))) ∧ Below w.heap.size w w' := by
  have HK := Lib.hid hK; have BL := Lib.hid (byteL_len s)
  clear hK
  have SL := Lib.hid (sumH_len (byteL s)); have SB := Lib.hid (sumH_by (byteL s))
  have TE := Lib.hid (show textH (byteL s) = hexL (sumH (byteL s)) from rfl)
  go_enter Tryz.func34, Tryz.ntmps34
  go_wp2_with (with_reducible refine wpList_bytes rfl _ rfl s rfl ?_)
  intro cap w1 hcap hbs hb1
  have BW := Lib.hid hb1; have HBS := Lib.hid hbs
  clear hb1 hbs
  go_wp2_with fail
  refine (sum_any _ s.size cap (byteL s) w1 (byteL_by s) HBS.out BL.out hcap hM (HK.out.below BW.out)).mono ?_
  rintro e w2 ⟨rfl, hb2⟩
  have BW2 := Lib.hid (BW.out.trans (hb2.mono BW.out.size))
  clear hb2 BW HBS
  generalize sumH (byteL s) = f at *
  have LE := Lib.hid (show (U8 f).length = 32 by simp [U8, SL.out])
  have ONE := Lib.hid (U8_one f)
  have R := Lib.hid (Row.new w2 122 (U8 (List.replicate 32 0)))
  have KEY := Lib.hid (R.out.setAll (U8 f) (by rw [LE.out]; rfl))
  go_wp2_with (first
    | (with_reducible refine wpList_value rfl _ _ (exec_alloc rfl zero24) ?_)
    | (with_reducible refine wpList_store_mid rfl 122 (.tmp 3) (.tmp 6) rfl w2.heap.size 0 _ rfl rfl ?ht ?hi ?h1 ?_))
  case ht => rw [show (U8 f).toArray.size = 32 from LE.out]; exact R.out.there
  case hi => rw [show (U8 f).toArray.size = 32 from LE.out]; first | exact info24 | exact info24b
  case h1 => exact ONE.out
  refine (hex_any _ 32 32 f _ SB.out (fun _ => ⟨_, rfl, KEY.out.lt, fun j x hx => by
    rw [Addr.add_mid, Nat.zero_add]
    exact (KEY.out.cell j).trans (U8_get hx)⟩) SL.out (Nat.le_refl _) (by omega)).mono ?_
  rintro e w3 ⟨rfl, hb3⟩
  have BW3 := Lib.hid (show Below w.heap.size w (w2.alloc (.cells (U8 (List.replicate 32 0)).toArray 122)) from BW2.out.alloc BW2.out.size _)
  have BW4 := Lib.hid (below_setCells (b := w2.heap.size) BW2.out.size (U8 f) 0 _ BW3.out)
  have BW5 := Lib.hid (BW4.out.trans (hb3.mono BW4.out.size))
  clear hb3 BW2 BW3 BW4 R KEY
  go_wp2_with fail
  go_ret
  exact ⟨by rw [TE.out]; rfl, BW5.out⟩
def Clean (s : HS) : Prop := canonH s = s
theorem clean_tail {s : HS} : Clean s ↔ s.tail.take (heldN s.n) ++ List.replicate (64 - heldN s.n) 0 = s.tail :=
  ⟨fun h => congrArg HS.tail h, fun h => by unfold Clean canonH; rw [h]⟩
theorem take_canon (l : List Int) (h : Nat) (hl : h ≤ l.length) : (l.take h ++ List.replicate (64 - h) 0).take h = l.take h := by
  rw [List.take_append_of_le_length (by rw [List.length_take]; omega), List.take_take, Nat.min_self]
theorem canon_clean {s : HS} (h : s.tail.length = 64) : Clean (canonH s) := by
  have hl := heldN_lt s.n
  rw [clean_tail]
  show (s.tail.take (heldN s.n) ++ List.replicate (64 - heldN s.n) 0).take (heldN s.n) ++ List.replicate (64 - heldN s.n) 0 = _
  rw [take_canon _ _ (by omega)]
  rfl
theorem step_clean {s : HS} (hc : Clean s) (h : s.tail.length = 64) (b : Int) : Clean (stepH s b) := by
  have hl := heldN_lt s.n
  have hh := heldN_cast (n := s.n)
  rw [clean_tail] at hc ⊢
  unfold stepH
  split
  · rename_i hw
    have h0 : heldN ((s.n + 1) % 18446744073709551616) = 0 := by unfold heldN; omega
    dsimp only
    rw [h0]
    rfl
  · rename_i hw
    have h1 : heldN ((s.n + 1) % 18446744073709551616) = heldN s.n + 1 := by unfold heldN at *; omega
    dsimp only
    rw [h1]
    have e : s.tail.set (heldN s.n) b = s.tail.take (heldN s.n) ++ (b :: List.replicate (64 - (heldN s.n + 1)) 0) := by
      conv => lhs; rw [← hc]
      rw [List.set_append_right _ _ (by rw [List.length_take]; omega), List.length_take, Nat.min_eq_left (by omega), Nat.sub_self]
      rw [show 64 - heldN s.n = (64 - (heldN s.n + 1)) + 1 by omega, List.replicate_succ, List.set_cons_zero]
    rw [e, List.take_append, List.length_take, Nat.min_eq_left (by omega), Nat.add_sub_cancel_left, List.take_succ_cons, List.take_zero, List.take_take, Nat.min_eq_right (by omega)]
    simp
theorem step_len {s : HS} (h : s.tail.length = 64) (b : Int) : (stepH s b).tail.length = 64 := by
  unfold stepH
  split
  · rfl
  · simpa using h
theorem fold_clean : ∀ (bs : List Int) {s : HS}, Clean s → s.tail.length = 64 → Clean (bs.foldl stepH s)
  | [], _, h, _ => h
  | b :: bs, _, h, hl => fold_clean bs (step_clean h hl b) (step_len hl b)
theorem feed_clean {s : HS} (h : s.tail.length = 64) (bs : List Int) : Clean (feedH s bs) := fold_clean bs (canon_clean h) (by have := heldN_lt s.n; simp [canonH]; omega)
theorem feed_feed {s : HS} (h : s.tail.length = 64) (a b : List Int) : feedH (feedH s a) b = feedH s (a ++ b) := by
  unfold feedH
  rw [List.foldl_append, show canonH (List.foldl stepH (canonH s) a) = _ from feed_clean h a]
  rfl
/-- A later world: all that was there is as it was. -/
structure BW (w0 : World) where
  w : World
  h : Below w0.heap.size w0 w
instance (w0 : World) : Nonempty (BW w0) := ⟨⟨w0, Below.refl _ _⟩⟩
section
variable {P : Program}
theorem region_bw {id : Nat} {Q : Exit → Act → World → Prop} {a : Act} {w : World} {l : List Oper} (hm : P.follows .mixedOrders = true) (hB : Region.lexB .any l.toArray = true)
    (h : wpQuiet P l.toArray (fun w' => ∃ x : BW w, w' = x.w) (fun a' => ∀ w', (∃ x : BW w, w' = x.w) → Q .normal a' w') l a) : (Code.region id l.toArray true).wp P Q a w :=
  wp_region_quiet (C := fun w' => ∃ x : BW w, w' = x.w) hm hB ⟨⟨w.drew, (Below.refl _ _).drew⟩, rfl⟩ (by simpa using h)
theorem calls_bw {f : FuncId} {args : Array Value} {w : World} {x : BW w} {v : Value} (h : Calls P f args x.w fun e w' => e = .returned v ∧ Below x.w.heap.size x.w w') :
    Calls P f args x.w fun e w'' => e = .returned v ∧ ∃ y : BW w, w'' = y.w :=
  h.mono fun _ w' ⟨he, hb⟩ => ⟨he, ⟨w', x.h.trans (hb.mono x.h.size)⟩, rfl⟩
/-- A load of a row that was there. -/
theorem quiet_load {o : Oper} {a : Act} {w : World} {K : Act → Prop} (ty : TypeId) (x : Operand) (ho : o.op = .load ty x) (b : Nat) (hx : a.eval x = .pointer (some ⟨b, 0, none⟩)) (cs : List Value) (T : TypeId) (d : TypeDesc) (hr : Row w b T cs)
    (hu : P.underlying ty = some d) (hd : d.isRow = true) (hi : (P.info? ty).map (·.size) = some cs.length) (h : K (a.put o.dst (.agg cs.toArray))) : o.quiet P a (fun w' => ∃ y : BW w, w' = y.w) K :=
  ⟨.agg cs.toArray, fun w' ⟨y, hy⟩ => by
    subst hy
    unfold Oper.quietAt execOp
    simp only [ho, hx, Instr.loadAt, Instr.sureAddr, Sem.run_bind, Sem.run_pure, Result.andThen_ok, run_loadVar_mid y.w b 0 ty cs d (hr.below y.h).range hu hd hi]
    exact ⟨rfl, rfl⟩, h⟩
/-- An operation whose value is known in every later world. -/
theorem quiet_val {o : Oper} {a : Act} {w : World} {K : Act → Prop} (v : Value) (hrun : ∀ y : BW w, (execOp a.eval o).run P y.w = .ok (.value v) y.w) (h : K (a.put o.dst v)) : o.quiet P a (fun w' => ∃ y : BW w, w' = y.w) K :=
  ⟨v, fun w' ⟨y, hy⟩ => by
    subst hy
    unfold Oper.quietAt
    rw [hrun y]
    exact ⟨rfl, rfl⟩, h⟩
/-- A load of a row, among the reads ahead of a region's tail. -/
theorem still_load {ops : Array Oper} {o : Oper} {rest : List Oper} {a : Act} {w : World} {Q : Act → Prop} (hgd : o.guard = none) (ty : TypeId) (x : Operand) (ho : o.op = .load ty x) (b : Nat) (hx : a.eval x = .pointer (some ⟨b, 0, none⟩)) (cs : List Value) (T : TypeId) (d : TypeDesc) (hr : Row w b T cs)
    (hu : P.underlying ty = some d) (hd : d.isRow = true) (hi : (P.info? ty).map (·.size) = some cs.length) (h : wpStill P ops w Q rest (a.put o.dst (.agg cs.toArray))) : wpStill P ops w Q (o :: rest) a :=
  wpStill_step fun K hK => by
    have hw : Region.wanted o (yielded ops a.tmps) = true := by simp [Region.wanted, hgd]
    rw [if_pos hw]
    unfold Oper.still execOp
    simp only [ho, hx, Instr.loadAt, Instr.sureAddr, Sem.run_bind, Sem.run_pure, Result.andThen_ok, run_loadVar_mid w b 0 ty cs d hr.range hu hd hi]
    rw [Oper.stillUpon_value]
    exact hK _ h
end
def canonTo (s : HS) (k : Nat) : List Int := s.tail.take (heldN s.n) ++ List.replicate (k - heldN s.n) 0 ++ s.tail.drop k
theorem canonTo_len {s : HS} (h : s.tail.length = 64) {k : Nat} (h1 : heldN s.n ≤ k) (h2 : k ≤ 64) : (canonTo s k).length = 64 := by simp [canonTo]; omega
theorem canonTo_start {s : HS} : canonTo s (heldN s.n) = s.tail := by simp [canonTo]
theorem canonTo_end {s : HS} (h : s.tail.length = 64) : canonTo s 64 = (canonH s).tail := by
  unfold canonTo canonH
  rw [List.drop_of_length_le (by omega), List.append_nil]
theorem canonTo_set {s : HS} (h : s.tail.length = 64) {k : Nat} (h1 : heldN s.n ≤ k) (h2 : k < 64) : (canonTo s k).set k 0 = canonTo s (k + 1) := by
  unfold canonTo
  rw [List.set_append_right _ _ (by simp; omega)]
  have e : k - (s.tail.take (heldN s.n) ++ List.replicate (k - heldN s.n) (0 : Int)).length = 0 := by simp; omega
  rw [e, List.drop_eq_getElem_cons (by omega), List.set_cons_zero, show k + 1 - heldN s.n = (k - heldN s.n) + 1 by omega, List.replicate_succ']
  simp
theorem hsL_set {s : HS} {k : Nat} (x : Int) : (hsL s).set (9 + k) (.int .u8 x) = hsL ⟨s.st, s.n, s.tail.set k x⟩ := by
  unfold hsL
  rw [List.set_append_right _ _ (by rw [stL_len]; omega), stL_len, show 9 + k - 8 = k + 1 by omega, List.set_cons_succ]
  unfold U8
  rw [List.map_set]
theorem Row.tail_cell {w : World} {b : Nat} {T : TypeId} {s : HS} (h : Row w b T (hsL s)) (k : Nat) (hk : k < s.tail.length) : w.cell? ⟨b, 9 + k, none⟩ = some (.int .u8 (s.tail.getD k 0)) :=
  h.tail_at k _ (U8_get (getD_some hk))
structure CX (w : World) (s : HS) (k : Nat) (wr : World) : Prop where
  r1 : Row wr w.heap.size 154 (hsL ⟨s.st, s.n, canonTo s k⟩)
  r2 : Row wr (w.heap.size + 1) 154 (hsL ZS)
  bw : Below w.heap.size w wr
def CXR (w : World) (s : HS) (v : Value) (wr : World) : Prop := ∃ k : Nat, heldN s.n ≤ k ∧ k ≤ 64 ∧ v = .int .i64 k ∧ CX w s k wr
theorem CX.step {w wr : World} {s : HS} {k : Nat} (H : CX w s k wr) (h : s.tail.length = 64) (h1 : heldN s.n ≤ k) (h2 : k < 64) : CX w s (k + 1) (wr.setCell ⟨w.heap.size, 9 + k, none⟩ (.int .u8 0)) := by
  refine ⟨?_, H.r2.setOther (by omega) _, H.bw.setCell (by simp) _⟩
  have h3 := H.r1.set (9 + k) (.int .u8 0)
  rwa [hsL_set, canonTo_set h h1 h2] at h3
set_option maxRecDepth 100000 in
theorem canon_any (s : HS) (w : World) (hs : HSR s) : Calls Tryz.prog 147 #[.agg (hsL s).toArray] w fun e w' => e = .returned (.agg (hsL (canonH s)).toArray) ∧ Below w.heap.size w w' := by
  have SO := Lib.hid hs
  have n0 := hs.2.1.1
  have n1 := hs.2.1.2
  have hl := heldN_lt s.n
  clear hs
  go_enter Tryz.func147, Tryz.ntmps147
  go_upto_region 0 with fail
  go_cut [1, 2] (fun v1 v2 wx => F0 w s v1 v2 wx)
  case first =>
    go_wp2_with (with_reducible refine wpList_value rfl _ _ (exec_alloc rfl zero32) ?_)
    go_meet
    refine ⟨rfl, by rw [World.size_alloc], ?_, ?_, by simp, ?_⟩
    · exact (Row.new w 154 (hsL s)).alloc _
    · have h := Row.new (w.alloc (.cells (hsL s).toArray 154)) 154 (hsL ZS)
      rw [World.size_alloc] at h
      exact h
    · exact ((Below.refl _ _).alloc (Nat.le_refl _) _).alloc (by simp) _
  case rest =>
    obtain ⟨rfl, rfl, r1, r2, sz, bw⟩ := hcut
    obtain ⟨w1, rfl⟩ : ∃ w1 : World, w1 = wc := ⟨_, rfl⟩
    have hn := r1.n_at
    have ST := Lib.hid (show CX w s (heldN s.n) w1 from ⟨by rw [canonTo_start]; exact r1, r2, bw⟩)
    clear r1 r2 sz bw
    go_upto_region 1 with fail
    go_cut [3] (fun v wx => SameW (.int .i64 (heldN s.n)) w1 v wx)
    case first =>
      go_wp2_with fail
      go_meet
      exact ⟨by rw [heldN_cast], rfl⟩
    case rest =>
      clear hn
      obtain ⟨rfl, rfl⟩ := hcut
      go_wp2_with fail
      go_loopw [3] (fun v wr => CXR w s v wr) (fun v _ => 64 - (intOf v).toNat)
      case atStart => exact ⟨_, Nat.le_refl _, by omega, rfl, ST.out⟩
      case round =>
        clear ST
        obtain ⟨k, hk1, hk2, rfl, hP⟩ := hrel
        have HP := Lib.hid hP
        by_cases hlt : k < 64
        · have hd : decide ((k : Int) < 64) = true := by simp; omega
          have k0 : (0 : Int) ≤ (k : Int) := by omega
          have k1 : (k : Int) < 64 := by omega
          have hc := hP.r1.tail_cell k (by rw [canonTo_len SO.out.2.2.1 hk1 hk2]; exact hlt)
          have hf := hP.r1.frozen (9 + k)
          dsimp only at hc
          generalize (canonTo s k).getD k 0 = y at *
          clear hP
          go_wp2_with fail
          go_roundw
          case rel => exact ⟨k + 1, by omega, by omega, by go_num, HP.out.step SO.out.2.2.1 hk1 hlt⟩
          case measure => simp [intOf]; omega
        · obtain rfl : k = 64 := by omega
          have CE := Lib.hid (show (HS.mk s.st s.n (canonTo s 64)) = canonH s by rw [canonTo_end SO.out.2.2.1]; rfl)
          have R1 := Lib.hid (show Row wr w.heap.size 154 (hsL (canonH s)) by rw [← CE.out]; exact hP.r1)
          have RG := Lib.hid R1.out.range
          have LEN := Lib.hid (hsL_len (canonH_range SO.out).2.2.1)
          have TH := Lib.hid (show wr.there (w.heap.size + 1) 0 73 from hP.r2.there)
          have KEY := Lib.hid (show Row (wr.setCells (w.heap.size + 1) 0 (hsL (canonH s))) (w.heap.size + 1) 154 (hsL (canonH s)) ∧ Below w.heap.size w (wr.setCells (w.heap.size + 1) 0 (hsL (canonH s))) from
            ⟨hP.r2.setAll _ (by rw [LEN.out]; rfl), below_setCells (by omega) _ _ _ hP.bw⟩)
          have ONE := Lib.hid (hsL_one (canonH s))
          clear hP HP CE hk1 hk2
          generalize hL : hsL (canonH s) = L at *
          have LE := Lib.hid hL
          clear hL
          go_wp2_with (first
            | (with_reducible refine wpList_load_mid rfl 154 (.tmp 1) rfl w.heap.size 0 rfl L _ RG.out Tryz.underlying154 ?ld ?li ?_)
            | (with_reducible refine wpList_store_mid rfl 154 (.tmp 2) (.tmp 15) rfl (w.heap.size + 1) 0 _ rfl rfl ?ht ?hi ?h1 ?_))
          case ld => rfl
          case li => rw [LEN.out]; exact info32
          case ht => rw [show L.toArray.size = 73 from LEN.out]; exact TH.out
          case hi => rw [show L.toArray.size = 73 from LEN.out]; exact info32
          case h1 => exact ONE.out
          exact bodyPost_ret (results_cell rfl _ _ _ (w.heap.size + 1) L _ rfl KEY.out.1.range Tryz.underlying154 rfl (by rw [LEN.out]; exact info32)) rfl ⟨by rw [LE.out], KEY.out.2⟩
/-- string(b) of an argument. -/
theorem conv_bs {w : World} {B : Nat} {A : Option Addr} {n c : Nat} {bs : List Int} (hA : Bs w B A bs) (hb : By bs) (hn : bs.length = n) : (convert 31 9 (.slice A n c)).run Tryz.prog w = .ok (.string (strOfNums bs)) w := by
  cases A with
  | none =>
    obtain rfl : bs = [] := by
      rcases Nat.eq_zero_or_pos bs.length with h | h
      · exact List.eq_nil_of_length_eq_zero h
      · obtain ⟨_, e, _⟩ := hA h; cases e
    exact run_convert_bytes_nil w 31 5 Tryz.underlying31 Tryz.underlying5 n c 9 Tryz.underlying9
  | some ad =>
    have h := run_convert_bytes_back (P := Tryz.prog) w 31 9 5 ad c (bs.map fun x => UInt8.ofNat x.toNat) Tryz.underlying31 Tryz.underlying5 Tryz.underlying9 (fun j hj => by
      have hj' : j < bs.length := by simpa using hj
      obtain ⟨ad', e, _, hc⟩ := hA (by omega)
      cases e
      have hx := h_at hb hj'
      rw [hc j _ (List.getElem?_eq_getElem hj')]
      simp only [List.getElem_map, UInt8.toNat_ofNat']
      congr 2
      omega)
    rw [List.length_map, hn] at h
    exact h
where
  h_at {bs : List Int} (hb : By bs) {j : Nat} (hj : j < bs.length) : 0 ≤ bs[j] ∧ bs[j] < 256 := hb _ (List.getElem_mem hj)
theorem sl_dig (n : Int) (h0 : 0 ≤ n) (h1 : n < 16) (w : World) : (Instr.slice 9 (.string ⟨#[48, 49, 50, 51, 52, 53, 54, 55, 56, 57, 97, 98, 99, 100, 101, 102]⟩) (some (.int .i64 n)) (some (.int .i64 (n + 1))) none).run Tryz.prog w = .ok (.string (strOfNums [hexC n])) w := by
  obtain ⟨k, rfl⟩ := Int.eq_ofNat_of_zero_le h0
  rcases k with _ | _ | _ | _ | _ | _ | _ | _ | _ | _ | _ | _ | _ | _ | _ | _ | k
  all_goals first | omega | kernel_rfl
def RHR (w : World) (bs : List Int) (m : Nat) (v v4 : Value) (wr : World) : Prop := ∃ k : Nat, k ≤ m ∧ v = .string (strOfNums (hexL (bs.take k))) ∧ v4 = .int .i64 k ∧ ∃ q, w.drewN q = wr
set_option maxRecDepth 100000 in
theorem refhex_any (A : Option Addr) (m c : Nat) (bs : List Int) (w : World) (hb : By bs) (hA : Bs w w.heap.size A bs) (hm : bs.length = m) (hM : m ≤ 16000000) :
    Calls Tryz.prog 89 #[.slice A m c] w fun e w' => e = .returned (.string (strOfNums (hexL bs))) ∧ Below w.heap.size w w' := by
  have HB := Lib.hid hb; have HA := Lib.hid hA; have HM := Lib.hid hm
  clear hb hA hm
  go_enter Tryz.func89, Tryz.ntmps89
  go_wp2_with fail
  go_loopw [3, 4] (fun v v4 wr => RHR w bs m v v4 wr) (fun _ v _ => m - (intOf v).toNat)
  case atStart => exact ⟨0, Nat.zero_le _, rfl, rfl, 0, rfl⟩
  case round =>
    obtain ⟨k, hk, rfl, rfl, q, rfl⟩ := hrel
    by_cases hlt : k < m
    · obtain ⟨ad, rfl, hab, hac⟩ := HA.out (by rw [HM.out]; omega)
      have hx1 : bs[k]? = some (bs.getD k 0) := getD_some (by rw [HM.out]; exact hlt)
      have hx2 := HB.out _ (List.mem_of_getElem? hx1)
      have hcell := hac k _ hx1
      have SN := Lib.hid (take_snocI bs (k := k) (by rw [HM.out]; exact hlt))
      have SZ := Lib.hid (show (strOfNums (hexL (bs.take k))).size = 2 * k by rw [strOfNums_size, hexL_len, List.length_take, HM.out]; omega)
      clear hac hx1 hab
      generalize bs.getD k 0 = x at *
      have x0 := hx2.1
      have x1 := hx2.2
      clear hx2
      have hd : decide ((k : Int) < (m : Int)) = true := by simp; omega
      have k0 : (0 : Int) ≤ (k : Int) := by omega
      have k1 : (k : Int) < (m : Int) := by omega
      generalize hS : strOfNums (hexL (bs.take k)) = S at *
      have SE := Lib.hid hS
      clear hS
      go_wp2_with fail
      go_quiet (fail)
      go_wp2_with fail
      have e1 := fun w => sl_dig (x / 16) (by omega) (by omega) w
      have e2 := fun w => sl_dig (x % 16) (by omega) (by omega) w
      have a1 := fun w => run_string_add_sum (P := Tryz.prog) w S (strOfNums [hexC (x / 16)]) (by rw [SZ.out, strOfNums_size]; simp; omega)
      have a2 := fun w => run_string_add_sum (P := Tryz.prog) w (S ++ strOfNums [hexC (x / 16)]) (strOfNums [hexC (x % 16)]) (by rw [ByteArray.size_append, SZ.out, strOfNums_size, strOfNums_size]; simp; omega)
      have v1 : IntKind.i64.wrap (x / 16 + 1) = x / 16 + 1 := IntWalk.i64_in _ (by omega)
      have v2 : IntKind.i64.wrap (x % 16 + 1) = x % 16 + 1 := IntWalk.i64_in _ (by omega)
      go_quiet (fail)
      go_wp2_with fail
      clear e1 e2 a1 a2 v1 v2
      go_roundw
      case rel =>
        refine ⟨k + 1, by omega, ?_, by go_num, _, rfl⟩
        rw [SN.out, hexL_snoc, ← SE.out, str_app, str_app]
        simp
      case measure => simp [intOf]; omega
    · obtain rfl : k = m := by omega
      have TE := Lib.hid (show bs.take k = bs from List.take_of_length_le (by rw [HM.out]; omega))
      rw [TE.out]
      go_wp2_with fail
      go_ret
      exact ⟨rfl, below_drewN _ _⟩
theorem owns_below {w w' : World} {base : Nat} {e : TypeId} {size : Nat} {v : Value} {n : Nat} {xs : List Value} (h : w.ownsRow base e size v n xs) (hb : Below w.heap.size w w') : w'.ownsRow base e size v n xs := by
  refine ⟨h.1, ?_⟩
  rcases h.2 with h0 | ⟨g, cap, cur, h1, h2, h3, h4⟩
  · exact .inl h0
  · exact .inr ⟨g, cap, cur, h1, h2, (hb.block g (lt_of_block h3)).trans h3, h4⟩
end Go.Proofs.YtfhbpgickkibmaaGreatDoor
