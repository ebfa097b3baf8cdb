/- The contract of hash's Feed. -/
import Derived.Test.YtldonfgdomeacaaDoorC
import Derived.Test.YtldonfgdomeacaaDoorD
namespace Go.Proofs.YtldonfgdomeacaaDoor
open Go.RowKit

theorem process_row (s : St) (bs : List Int) (w : World) (hb : Bytes bs) (hs : StR s) (hK : KC w) : Calls Tryd.prog 27 #[.agg (U32 (stL s)).toArray, .agg (U8 bs).toArray] w fun e w' => e = .returned (.agg (U32 (stL (blockS s bs))).toArray) ∧ Below w.heap.size w w' := process_any s bs w hb hs hK
theorem build32 (s : St) (n : Int) (w : World) : (Instr.build 32 #[(0, .agg (U32 (stL s)).toArray), (1, .int .u64 n)]).run Tryd.prog w = .ok (.agg (hsL ⟨s, n, Z64⟩).toArray) w := by kernel_rfl
theorem build30 (w : World) : (Instr.build 30 #[]).run Tryd.prog w = .ok (.agg (U8 Z64).toArray) w := by kernel_rfl
/-- An operation whose run is known. -/
theorem wpList_value {P : Program} {ops : Array Oper} {rest : List Oper} {op : Oper} {a : Act} {w : World} {Q : Exit → Act → World → Prop} (hgd : op.guard = none) (v : Value) (w' : World)
    (hrun : (execOp a.eval op).run P w = .ok (.value v) w') (h : wpList P ops Q rest (a.put op.dst v) w') : wpList P ops Q (op :: rest) a w :=
  wpList_plain hgd fun _ hK => by
    unfold Oper.wp
    simp only [hrun]
    exact hK _ _ h
def ZS : HS := ⟨⟨0, 0, 0, 0, 0, 0, 0, 0⟩, 0, Z64⟩
theorem zero32 : (Tryd.prog.info? 32).bind (·.zero) = some (.agg (hsL ZS).toArray) := by kernel_rfl
theorem exec_alloc {P : Program} {ρ : Operand → Value} {op : Oper} {ty : TypeId} {cs : List Value} {w : World} (ho : op.op = .alloc ty) (hz : (P.info? ty).bind (·.zero) = some (.agg cs.toArray)) :
    (execOp ρ op).run P w = .ok (.value (.pointer (some ⟨w.heap.size, 0, none⟩))) (w.alloc (.cells cs.toArray ty)) := by
  cases hq : P.info? ty with
  | none => simp [hq] at hz
  | some i =>
    have hz' : i.zero = some (.agg cs.toArray) := by simpa [hq] using hz
    unfold execOp
    simp [ho, Instr.alloc, zeroValue, typeInfo, hq, hz', newVar, Value.cells]
    rfl
theorem exec_build {P : Program} {ρ : Operand → Value} {op : Oper} {ty : TypeId} {parts : Array (Nat × Operand)} {vals : Array (Nat × Value)} {v : Value} {w : World} (ho : op.op = .build ty parts)
    (hp : parts.map (fun p => (p.1, ρ p.2)) = vals) (hrun : (Instr.build ty vals).run P w = .ok v w) : (execOp ρ op).run P w = .ok (.value v) w := by
  subst hp
  unfold execOp
  simp only [ho]
  simp [hrun]
theorem exec_copy {P : Program} {ρ : Operand → Value} {op : Oper} {d s : Operand} {dT sT : TypeId} {vd vs v : Value} {w w' : World} (ho : op.op = .call { callee := .builtin .copy, args := #[d, s], argTypes := #[dT, sT] })
    (hd : ρ d = vd) (hs : ρ s = vs) (hrun : (Builtin.copy_ #[dT, sT] op.type #[vd, vs]).run P w = .ok v w') : (execOp ρ op).run P w = .ok (.value v) w' := by
  unfold execOp
  simp only [ho, resolve, invoke, builtin, Sem.run_bind, Sem.run_pure, Result.andThen_ok, List.map_toArray, List.map_cons, List.map_nil, hd, hs, hrun]
def cutA (A : Option Addr) (cap l : Nat) : Option Addr := if cap = l then A else A.map (·.add l)
theorem Bs.cutA {w : World} {B : Nat} {A : Option Addr} {xs : List Int} (h : Bs w B A xs) {k cap : Nat} (hk : k ≤ xs.length) (hc : xs.length ≤ cap) : Bs w B (cutA A cap k) (xs.drop k) := h.drop hk hc
theorem exec_slice22 {ρ : Operand → Value} {op : Oper} {x lo : Operand} {A : Option Addr} {len cap l : Nat} {w : World} (ho : op.op = .slice 22 x (some lo) none none) (hx : ρ x = .slice A len cap) (hlo : ρ lo = .int .i64 (l : Nat)) (h1 : l ≤ len) :
    (execOp ρ op).run Tryd.prog w = .ok (.value (.slice (cutA A cap l) (len - l) (cap - l))) w := by
  have h := run_slice_l (P := Tryd.prog) w 22 A len cap (by rfl) .i64 (l : Int) (by omega) (by omega)
  have hs : (sizeOf (Tryd.prog.elem 22)).run Tryd.prog w = .ok 1 w := by kernel_rfl
  unfold execOp
  simp only [ho, hx, hlo, Option.map_some, Option.map_none, run_sliceAt_slice w 22 _ _ _ _ (show Tryd.prog.underlying 22 = some (.slice (Tryd.prog.elem 22)) by rfl), Sem.run_bind, h, hs, Result.andThen_ok, sliced, Int.toNat_natCast, Nat.mul_one, Sem.run_pure]
  rfl
theorem hsL_one (s : HS) : (hsL s).toArray.all (·.oneCell') = true := all_oneCell_toArray (fun v hv => by
  unfold hsL at hv
  rcases List.mem_append.1 hv with h | h
  · obtain ⟨x, _, rfl⟩ := List.mem_map.1 h; rfl
  · rcases List.mem_cons.1 h with rfl | h
    · rfl
    · obtain ⟨x, _, rfl⟩ := List.mem_map.1 h; rfl)
/-- A state of the function's own at block b, another at b + 1. -/
structure F0 (w : World) (s : HS) (v2 v4 : Value) (wx : World) : Prop where
  p2 : v2 = .pointer (some ⟨w.heap.size, 0, none⟩)
  p4 : v4 = .pointer (some ⟨w.heap.size + 1, 0, none⟩)
  r2 : Row wx w.heap.size 32 (hsL s)
  r4 : Row wx (w.heap.size + 1) 32 (hsL ZS)
  sz : wx.heap.size = w.heap.size + 1 + 1
  bw : Below w.heap.size w wx
/-- Its three states. -/
structure F1 (w : World) (s t : HS) (wx : World) : Prop where
  r2 : Row wx w.heap.size 32 (hsL s)
  r4 : Row wx (w.heap.size + 1) 32 (hsL ZS)
  r5 : Row wx (w.heap.size + 1 + 1) 32 (hsL t)
  bw : Below w.heap.size w wx
def F1R (w : World) (s t : HS) (v : Value) (wx : World) : Prop := v = .pointer (some ⟨w.heap.size + 1 + 1, 0, none⟩) ∧ F1 w s t wx
def SameW (x : Value) (w : World) (v : Value) (wx : World) : Prop := v = x ∧ w = wx
/-- What holds at the loop's head: k bytes are fed, r are left. -/
structure FL (w : World) (s : HS) (bs : List Int) (m k r : Nat) (A : Option Addr) (c : Nat) (wr : World) : Prop where
  kr : k + r = m
  rc : r ≤ c
  by_ : Bs wr w.heap.size A (bs.drop k)
  r4 : Row wr (w.heap.size + 1) 32 (hsL ZS)
  r5 : Row wr (w.heap.size + 1 + 1) 32 (hsL ⟨(atK s bs k).st, (s.n + m) % 18446744073709551616, (atK s bs k).tail⟩)
  bw : Below w.heap.size w wr
def FLR (w : World) (s : HS) (bs : List Int) (m : Nat) (v1 v6 : Value) (wr : World) : Prop := ∃ k r A c, v1 = .slice A r c ∧ v6 = .int .i64 (heldN (atK s bs k).n) ∧ FL w s bs m k r A c wr
/-- Behind the copy of q bytes. -/
structure FM (w : World) (s : HS) (bs : List Int) (m k r h q : Nat) (A : Option Addr) (c : Nat) (wr : World) : Prop where
  r4 : Row wr (w.heap.size + 1) 32 (hsL ZS)
  r5 : Row wr (w.heap.size + 1 + 1) 32 (hsL ⟨(atK s bs k).st, (s.n + m) % 18446744073709551616, lay (atK s bs k).tail h ((bs.drop k).take q)⟩)
  by_ : Bs wr w.heap.size A (bs.drop k)
  bw : Below w.heap.size w wr
def slLen : Value → Nat
  | .slice _ n _ => n
  | _ => 0
theorem canon_lay (s : HS) (ht : s.tail.length = 64) : lay Z64 0 ((s.tail.take (heldN s.n)).take (heldN s.n)) = (canonH s).tail := by
  have hl := heldN_lt s.n
  have e : ((s.tail.take (heldN s.n)).take (heldN s.n)) = s.tail.take (heldN s.n) := by rw [List.take_take, Nat.min_self]
  have e2 : (s.tail.take (heldN s.n)).length = heldN s.n := by rw [List.length_take]; omega
  unfold lay canonH Z64
  rw [e, e2, Nat.zero_add, List.drop_replicate]
  rfl
set_option maxRecDepth 100000 in
set_option maxHeartbeats 300000 in
theorem feed_any (s : HS) (A : Option Addr) (m c : Nat) (bs : List Int) (w : World) (hs : HSR s) (hb : By bs) (hA : Bs w w.heap.size A bs) (hm : bs.length = m) (hc : m ≤ c) (hM : m ≤ 8192) (hK : KC w) :
    Calls Tryd.prog 15 #[hsV s, .slice A m c] w fun e w' => e = .returned (hsV (feedH s bs)) ∧ Below w.heap.size w w' := by
  have SO := Lib.hid hs; have HB := Lib.hid hb; have HA := Lib.hid hA; have HM := Lib.hid hm; have HK := Lib.hid hK
  have n0 := hs.2.1.1
  have n1 := hs.2.1.2
  have CT := Lib.hid (show (canonH s).tail = s.tail.take (heldN s.n) ++ List.replicate (64 - heldN s.n) 0 from rfl)
  clear hs hb hA hm hK
  unfold hsV
  go_enter Tryd.func15, Tryd.ntmps15
  go_upto_region 0 with fail
  go_cut [2, 4] (fun v2 v4 wx => F0 w s v2 v4 wx)
  case first =>
    go_wp2_with (with_reducible refine wpList_value rfl _ _ (exec_alloc rfl zero32) ?_)
    go_meet
    refine ⟨rfl, by rw [World.size_alloc], ?_, ?_, by simp, ?_⟩
    · exact (Row.new w 32 (hsL s)).alloc _
    · have h := Row.new (w.alloc (.cells (hsL s).toArray 32)) 32 (hsL ZS)
      rw [World.size_alloc] at h
      exact h
    · exact ((Below.refl _ _).alloc (Nat.le_refl _) _).alloc (by simp) _
  case rest =>
    obtain ⟨rfl, rfl, r2, r4, sz, bw⟩ := hcut
    obtain ⟨w1, rfl⟩ : ∃ w1 : World, w1 = wc := ⟨_, rfl⟩
    have hst := Lib.hid r2.st_at
    have hn := r2.n_at
    have R2 := Lib.hid r2; have R4 := Lib.hid r4; have BW := Lib.hid bw
    clear r2 r4 bw
    go_upto_region 1 with fail
    go_cut [5] (fun v5 wx => F1R w s ⟨s.st, (s.n + m) % 18446744073709551616, Z64⟩ v5 wx)
    case first =>
      go_wp2_with (first
        | (with_reducible refine wpList_value rfl _ _ (exec_alloc rfl zero32) ?_)
        | (with_reducible refine wpList_load_mid rfl 28 (.tmp 8) rfl w.heap.size 0 rfl (U32 (stL s.st)) _ hst.out Tryd.underlying28 ?ld ?li ?_)
        | (with_reducible refine wpList_value rfl _ _ (exec_build (vals := #[(0, .agg (U32 (stL s.st)).toArray), (1, .int .u64 ((s.n + m) % 18446744073709551616))]) rfl ?hp (build32 _ _ _)) ?_)
        | (with_reducible refine wpList_store_mid rfl 32 (.tmp 5) (.tmp 16) rfl _ _ _ rfl rfl ?ht ?hi ?h1 ?_))
      case ld => rfl
      case li => exact info28
      case hp =>
        rw [← IntKind.wrap_u64]
        simp only [List.map_toArray, List.map_cons, List.map_nil]
        rfl
      case ht => exact (Row.new w1 32 (hsL ZS)).there
      case hi => exact info32
      case h1 => exact hsL_one _
      go_meet
      refine ⟨by rw [sz], ?_⟩
      have hr := (Row.new w1 32 (hsL ZS)).setAll (hsL ⟨s.st, (s.n + m) % 18446744073709551616, Z64⟩) rfl
      rw [sz] at hr ⊢
      exact ⟨Row.setCellsOther (by omega) _ _ _ (R2.out.alloc _), Row.setCellsOther (by omega) _ _ _ (R4.out.alloc _), hr, below_setCells (by omega) _ _ _ (BW.out.alloc (by rw [sz]; omega) _)⟩
    case rest =>
      clear sz hst hn R2 R4 BW
      obtain ⟨rfl, F⟩ := hcut
      obtain ⟨w2, rfl⟩ : ∃ w2 : World, w2 = wc := ⟨_, rfl⟩
      have hn := F.r2.n_at
      have FF := Lib.hid F
      clear F w1
      go_upto_region 2 with fail
      go_cut [6] (fun v wx => SameW (.int .i64 (heldN s.n)) w2 v wx)
      case first =>
        go_wp2_with fail
        go_meet
        exact ⟨by rw [heldN_cast], rfl⟩
      case rest =>
        clear hn
        obtain ⟨rfl, rfl⟩ := hcut
        have hl : heldN s.n < 64 := heldN_lt s.n
        have hl2 : heldN s.n ≤ 64 := by omega
        have hl3 : ((heldN s.n : Nat) : Int) ≤ 64 := by omega
        have hl4 : (0 : Int) ≤ ((heldN s.n : Nat) : Int) := by omega
        have tl : s.tail.length = 64 := SO.out.2.2.1
        have hcp := run_copyB (w := w2.drew) (ty := 3) (b := w.heap.size + 1 + 1) (o := 9) (dLen := heldN s.n) (dCap := 64) (B := w.heap.size + 1) (sLen := heldN s.n) (sCap := 64) (A := some ⟨w.heap.size, 9, none⟩) (xs := s.tail.take (heldN s.n)) (by simp; omega)
          (fun _ => ⟨_, rfl, by simp, fun j x hx => by
            rw [Addr.add_mid]
            refine FF.out.r2.tail_at j _ (U8_get ?_)
            rw [List.getElem?_take] at hx
            split at hx
            · exact hx
            · cases hx⟩) (FF.out.r5.drew.there_at (by rw [hsL_len rfl]; omega))
        have KEY := Lib.hid (show F1 w s ⟨s.st, (s.n + m) % 18446744073709551616, (canonH s).tail⟩ (w2.drew.setCells (w.heap.size + 1 + 1) 9 (U8 ((s.tail.take (heldN s.n)).take (heldN s.n)))) from by
          have h5 := FF.out.r5.drew.lay_tail 0 ((s.tail.take (heldN s.n)).take (heldN s.n)) (by simp [Z64]; omega)
          dsimp only at h5
          rw [canon_lay s tl] at h5
          exact ⟨Row.setCellsOther (by omega) _ _ _ FF.out.r2.drew, Row.setCellsOther (by omega) _ _ _ FF.out.r4.drew, h5, below_setCells (by omega) _ _ _ FF.out.bw.drew⟩)
        generalize U8 ((s.tail.take (heldN s.n)).take (heldN s.n)) = CB at *
        have ST := Lib.hid (show Value.int .i64 (heldN s.n : Nat) = Value.int .i64 (heldN (atK s bs 0).n) from rfl)
        clear tl
        generalize heldN s.n = h at *
        go_upto_region 3 with fail
        go_cut [27] (fun _ wx => F1 w s ⟨s.st, (s.n + m) % 18446744073709551616, (canonH s).tail⟩ wx)
        case first =>
          go_region
          go_wp2_with fail
          go_meet
          exact KEY.out
        case rest =>
          clear hcp KEY FF hl hl2 hl3 hl4 CT
          obtain ⟨w3, rfl⟩ : ∃ w3 : World, w3 = wc := ⟨_, rfl⟩
          have FF := Lib.hid hcut
          clear hcut w2
          go_wp2_with fail
          go_loopw [1, 6] (fun v1 v6 wr => FLR w s bs m v1 v6 wr) (fun v1 _ _ => slLen v1)
          case atStart => exact ⟨0, m, A, c, rfl, ST.out, by omega, hc, (HA.out).below FF.out.bw, FF.out.r4, FF.out.r5, FF.out.bw⟩
          case round =>
            clear FF ST
            obtain ⟨k, r, A', c', rfl, rfl, FL0⟩ := hrel
            have F := Lib.hid FL0
            have tr := atK_range SO.out HB.out k
            have tn := tr.2.1
            have tl := tr.2.2.1
            have TR := Lib.hid tr
            have rc := FL0.rc
            have kr := FL0.kr
            have hbl : (bs.drop k).length = r := by rw [List.length_drop, HM.out]; omega
            have hl : heldN (atK s bs k).n < 64 := heldN_lt _
            obtain ⟨h, hh⟩ : ∃ h, h = heldN (atK s bs k).n := ⟨_, rfl⟩
            obtain ⟨q, hq⟩ : ∃ q, q = Nat.min r (64 - h) := ⟨_, rfl⟩
            have hcp := run_copyB (w := wr) (ty := 3) (b := w.heap.size + 1 + 1) (o := 9 + h) (dLen := 64 - h) (dCap := 64 - h) (B := w.heap.size) (sLen := r) (sCap := c') (A := A') (xs := bs.drop k) hbl FL0.by_
              (FL0.r5.there_at (by rw [hsL_len (show (HS.mk (atK s bs k).st ((s.n + m) % 18446744073709551616) (atK s bs k).tail).tail.length = 64 from tl)]; omega))
            have hq1 : q ≤ r := hq ▸ Nat.min_le_left _ _
            have hq2 : q ≤ 64 - h := hq ▸ Nat.min_le_right _ _
            have hq3 : (bs.drop k).take (64 - h) = (bs.drop k).take q := by
              rw [hq]
              rcases Nat.le_total r (64 - h) with h1 | h1
              · rw [show Nat.min r (64 - h) = r from Nat.min_eq_left h1, List.take_of_length_le (by omega), List.take_of_length_le (by omega)]
              · rw [show Nat.min r (64 - h) = 64 - h from Nat.min_eq_right h1]
            have hql : ((bs.drop k).take q).length = q := by rw [List.length_take]; omega
            rw [← hq, hq3] at hcp
            have hrow := FL0.r5.lay_tail h ((bs.drop k).take q) (by dsimp only; rw [hql]; omega)
            dsimp only at hrow
            have K1 := Lib.hid (show FM w s bs m k r h q A' c' (wr.setCells (w.heap.size + 1 + 1) (9 + h) (U8 ((bs.drop k).take q))) from
              ⟨Row.setCellsOther (by omega) _ _ _ FL0.r4, hrow, FL0.by_.below (below_setCells (by omega) _ _ _ (Below.refl _ _)), below_setCells (by omega) _ _ _ FL0.bw⟩)
            have CP := Lib.hid hcp
            clear hcp FL0 tr hrow F
            rw [← hh]
            have HH := Lib.hid hh
            have HQ := Lib.hid hq
            generalize U8 ((bs.drop k).take q) = CB at *
            have hl2 : h < 64 := by omega
            have hl3 : ((h : Nat) : Int) ≤ 64 := by omega
            have hl4 : ¬ 64 = h := by omega
            have hl5 : h ≤ 64 := by omega
            have hq4 : (q : Int) ≤ (r : Int) := by omega
            have rM : r ≤ 8192 := by omega
            clear hl hq3 hql hbl tn tl hh hq
            go_upto_region 4 with fail
            go_cut [7] (fun v wx => v = .int .i64 q ∧ FM w s bs m k r h q A' c' wx)
            case first =>
              go_wp2_with (with_reducible refine wpList_value rfl _ _ (exec_copy (vd := .slice (some ⟨w.heap.size + 1 + 1, 9 + h, none⟩) (64 - h) (64 - h)) (vs := .slice A' r c') rfl rfl rfl CP.out) ?_)
              go_meet
              exact ⟨rfl, K1.out⟩
            case rest =>
              clear CP K1
              obtain ⟨rfl, F1⟩ := hcut
              obtain ⟨w4, rfl⟩ : ∃ w4 : World, w4 = wc := ⟨_, rfl⟩
              have F := Lib.hid F1
              clear F1 wr
              have hs1 : (w.heap.size + 1 + 1) = w.heap.size + 1 + 1 := rfl
              clear hs1
              by_cases hlt : r < 64 - h
              · obtain rfl : q = r := HQ.out.trans (Nat.min_eq_left (by omega))
                have hd : ((h : Nat) : Int) + ((q : Nat) : Int) < 64 := by omega
                have hd2 : decide (((h : Nat) : Int) + ((q : Nat) : Int) < 64) = true := by simp; omega
                have LEN := Lib.hid (show (hsL ⟨(atK s bs k).st, (s.n + m) % 18446744073709551616, lay (atK s bs k).tail h ((bs.drop k).take q)⟩).length = 73 from
                  hsL_len (lay_bytes TR.out.2.2 (fun x hx => HB.out x (List.mem_of_mem_drop (List.mem_of_mem_take hx))) (by rw [List.length_take]; omega)).1)
                have RES := Lib.hid (show feedH s bs = ⟨(atK s bs k).st, (s.n + m) % 18446744073709551616, lay (atK s bs k).tail h ((bs.drop k).take q)⟩ by
                  rw [HH.out, feed_done SO.out HB.out (by rw [HM.out]; exact kr) (by rw [← HH.out]; omega), kr])
                have ONE := Lib.hid (hsL_one ⟨(atK s bs k).st, (s.n + m) % 18446744073709551616, lay (atK s bs k).tail h ((bs.drop k).take q)⟩)
                have R5 := Lib.hid F.out.r5.range
                have R4 := Lib.hid F.out.r4.there
                have KEY := Lib.hid (show Row (w4.setCells (w.heap.size + 1) 0 (hsL ⟨(atK s bs k).st, (s.n + m) % 18446744073709551616, lay (atK s bs k).tail h ((bs.drop k).take q)⟩)) (w.heap.size + 1) 32 _ ∧ Below w.heap.size w (w4.setCells (w.heap.size + 1) 0 (hsL ⟨(atK s bs k).st, (s.n + m) % 18446744073709551616, lay (atK s bs k).tail h ((bs.drop k).take q)⟩)) from
                  ⟨F.out.r4.setAll _ (by rw [LEN.out]; rfl), below_setCells (by omega) _ _ _ F.out.bw⟩)
                clear HB HA HM HK TR F HH HQ SO kr
                have RES2 := Lib.hid (show hsL (feedH s bs) = _ from congrArg hsL RES.out)
                clear RES
                generalize hsL ⟨(atK s bs k).st, (s.n + m) % 18446744073709551616, lay (atK s bs k).tail h ((bs.drop k).take q)⟩ = L at *
                go_wp2_with (first
                  | (with_reducible refine wpList_value rfl _ _ (exec_slice22 rfl rfl rfl hq1) ?_)
                  | (with_reducible refine wpList_load_mid rfl 32 (.tmp 5) rfl (w.heap.size + 1 + 1) 0 rfl L _ R5.out Tryd.underlying32 ?ld ?li ?_)
                  | (with_reducible refine wpList_store_mid rfl 32 (.tmp 4) (.tmp 41) rfl (w.heap.size + 1) 0 _ rfl rfl ?ht ?hi ?h1 ?_))
                case ld => rfl
                case li => rw [LEN.out]; exact info32
                case ht => rw [show L.toArray.size = 73 from LEN.out]; exact R4.out
                case hi => rw [show L.toArray.size = 73 from LEN.out]; exact info32
                case h1 => exact ONE.out
                refine bodyPost_ret (results_cell rfl _ _ _ (w.heap.size + 1) L _ rfl KEY.out.1.range Tryd.underlying32 rfl (by rw [LEN.out]; exact info32)) rfl ⟨?_, KEY.out.2⟩
                rw [← RES2.out]
              · have hq5 : q = 64 - h := HQ.out.trans (Nat.min_eq_right (by omega))
                have hd : ¬ ((h : Nat) : Int) + ((q : Nat) : Int) < 64 := by omega
                have hd2 : decide (((h : Nat) : Int) + ((q : Nat) : Int) < 64) = false := by simp; omega
                have hq6 : 0 < q := by omega
                have hq7 : h + q = 64 := by omega
                have TB := Lib.hid (show Bytes (lay (atK s bs k).tail h ((bs.drop k).take q)) from lay_bytes TR.out.2.2 (fun x hx => HB.out x (List.mem_of_mem_drop (List.mem_of_mem_take hx))) (by rw [List.length_take]; omega))
                have MORE := Lib.hid (show atK s bs (k + q) = ⟨blockS (atK s bs k).st (lay (atK s bs k).tail h ((bs.drop k).take q)), (s.n + (k + q : Nat)) % 18446744073709551616, Z64⟩ ∧ heldN (atK s bs (k + q)).n = 0 by
                  rw [HH.out]
                  exact feed_more SO.out HB.out (by rw [HM.out]; omega) (by rw [← HH.out]; omega))
                have HQ7 := Lib.hid hq7
                have R0 := Lib.hid F.out.r5.st_at
                have R9 := Lib.hid F.out.r5.tail_at
                have KB := Lib.hid (HK.out.below F.out.bw)
                have G4 := Lib.hid F.out.r4
                have G5 := Lib.hid F.out.r5
                have GB := Lib.hid F.out.by_
                have GW := Lib.hid F.out.bw
                have SR := Lib.hid TR.out.1
                clear HQ hq5 hq7 HH hl5 F
                generalize lay (atK s bs k).tail h ((bs.drop k).take q) = T at *
                generalize (atK s bs k).st = S at *
                dsimp only at R0 R9
                go_wp2_with (first
                  | (with_reducible refine wpList_value rfl _ _ (exec_slice22 rfl rfl rfl hq1) ?_)
                  | (with_reducible refine wpList_load_mid rfl 28 (.tmp 42) rfl (w.heap.size + 1 + 1) 0 rfl (U32 (stL S)) _ R0.out Tryd.underlying28 ?ld ?li ?_)
                  | (with_reducible refine wpList_load_mid rfl 30 (.tmp 44) rfl (w.heap.size + 1 + 1) 9 rfl (U8 T) _ R9.out Tryd.underlying30 ?ld2 ?li2 ?_))
                case ld => rfl
                case li => first | exact info28b | exact info28
                case ld2 => rfl
                case li2 => rw [show (U8 T).length = 64 by simp [U8, TB.out.1]]; first | exact info30b | exact info30
                refine (process_row S T w4 TB.out SR.out KB.out).mono ?_
                rintro e w5 ⟨rfl, hb5⟩
                have F5 := Lib.hid (show Row w5 (w.heap.size + 1) 32 (hsL ZS) ∧ Row w5 (w.heap.size + 1 + 1) 32 (hsL ⟨S, (s.n + m) % 18446744073709551616, T⟩) ∧ Bs w5 w.heap.size A' (bs.drop k) ∧ Below w.heap.size w w5 from
                  ⟨G4.out.below hb5, G5.out.below hb5, GB.out.below (hb5.mono GW.out.size), GW.out.trans (hb5.mono GW.out.size)⟩)
                clear hb5 G4 G5 GB GW
                have R6 := Lib.hid (F5.out.2.1.set_st (blockS S T))
                have R7 := Lib.hid (R6.out.set_tail Z64 (by dsimp only; rw [TB.out.1]; rfl))
                have TH1 := Lib.hid (F5.out.2.1.there_at (o := 0) (n := 8) (by rw [hsL_len TB.out.1]; omega))
                have TH2 := Lib.hid (R6.out.there_at (o := 9) (n := 64) (by rw [hsL_len TB.out.1]; omega))
                go_wp2_with (first
                  | (with_reducible refine wpList_value rfl _ _ (exec_build (vals := #[]) rfl ?hp (build30 _)) ?_)
                  | (with_reducible refine wpList_store_mid rfl 28 (.tmp 47) (.tmp 46) rfl (w.heap.size + 1 + 1) 0 _ rfl rfl ?ht ?hi ?h1 ?_)
                  | (with_reducible refine wpList_store_mid rfl 30 (.tmp 49) (.tmp 48) rfl (w.heap.size + 1 + 1) 9 _ rfl rfl ?ht2 ?hi2 ?h12 ?_))
                case ht => exact TH1.out
                case hi => first | exact info28 | exact info28b
                case h1 => exact U32_one _
                case hp => simp only [List.map_toArray, List.map_nil]
                case ht2 => exact TH2.out
                case hi2 => first | exact info30 | exact info30b
                case h12 => exact U8_one _
                refine ⟨⟨k + q, r - q, cutA A' c' q, c' - q, rfl, by rw [MORE.out.2]; rfl, by omega, by omega, ?_, ?_, ?_, ?_⟩, by simp only [slLen]; omega⟩
                · have hb := F5.out.2.2.1.cutA (k := q) (cap := c') (by rw [List.length_drop, HM.out]; omega) (by rw [List.length_drop, HM.out]; omega)
                  rw [List.drop_drop] at hb
                  exact hb.below (below_setCells (by omega) _ _ _ (below_setCells (by omega) _ _ _ (Below.refl _ _)))
                · exact Row.setCellsOther (by omega) _ _ _ (Row.setCellsOther (by omega) _ _ _ F5.out.1)
                · rw [MORE.out.1]
                  exact R7.out
                · exact below_setCells (by omega) _ _ _ (below_setCells (by omega) _ _ _ F5.out.2.2.2)
end Go.Proofs.YtldonfgdomeacaaDoor
