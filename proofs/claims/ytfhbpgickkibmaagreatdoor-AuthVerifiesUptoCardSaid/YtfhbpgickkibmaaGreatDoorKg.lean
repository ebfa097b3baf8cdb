/- slices.Backward over nonces: its contract as an iterator. The law AuthVerifies, from Verify's contract. The range over slices.Backward in auth's Verify. auth's Verify. The law AuthVerifies. -/
import Derived.Test.YtfhbpgickkibmaaGreatDoorRd
import Derived.RangeFuncNested
import Derived.RangeFuncBound
import Derived.RangeFuncCalls
import Derived.RangeFuncLeaves
import Derived.Shelf.Abstract
import Derived.Shelf.RegionOpen
import Derived.WalkKit
import Derived.OwnWalkIn
import Derived.TacticsInMore
import Derived.LoopNIn
import Derived.LoopIn
import Derived.Test.YtfhbpgickkibmaaGreatDoorNg
import Derived.Test.YtfhbpgickkibmaaGreatDoorDg
namespace Go.Proofs.YtfhbpgickkibmaaGreatDoor
open Go.RowKit Go.Shelf

attribute [local go_sem] Oper.semAt_some
/-- What has come when k rounds are over. -/
def upB {α : Type} (f : Nat → α) (k : Nat) : List α := (List.range k).map f
theorem upB_succ {α : Type} (f : Nat → α) (k : Nat) : upB f (k + 1) = upB f k ++ [f k] := by simp [upB, List.range_succ]
theorem upB_len {α : Type} (f : Nat → α) (k : Nat) : (upB f k).length = k := by simp [upB]
def bkN (l : List Nce) (k : Nat) : Nat × Nce := (l.length - 1 - k, l.getD (l.length - 1 - k) ⟨⟨#[]⟩, 0, 0⟩)
def encN (x : Nat × Nce) : Array Value := #[.int .i64 (x.1 : Int), .agg #[.string x.2.v, .int .i64 x.2.a, .int .i64 x.2.k]]
set_option maxRecDepth 100000 in
theorem backward_in (A : Option Addr) (n c : Nat) (w : World) :
    Calls Tryz.prog 63 #[.slice A n c] w fun e w' => e = .returned (.func (.func 92) #[] #[.pointer (some ⟨w.heap.size, 0, none⟩)]) ∧ w' = w.alloc (.cells #[.slice A n c] 47) := by
  go_enter Tryz.func63, Tryz.ntmps63
  go_wp2_with fail
  go_ret
  exact ⟨rfl, rfl⟩
set_option maxRecDepth 100000 in
set_option maxHeartbeats 2000000 in
theorem back1_in (F : Fence) (n : Nat) (hF : F.fn 92) (hro : F.round = none) (hn : 1 ≤ n) (r Bs n₀ : Nat) (A : Option Addr) (en ec : Nat) (l : List Nce) (hl : l.length = en) (hen : en ≤ 2000000) (hBs : Bs < n₀) (J Jx : List (Nat × Nce) → World → Prop)
    (hY : ∀ pre x W, J pre W → pre.length < en → YieldAt F (n - 1) Tryz.prog r (encN x) W fun e W' =>
      (e = .returned (.bool true) ∧ J (pre ++ [x]) W' ∧ Below n₀ W W') ∨ (e = .returned (.bool false) ∧ Jx (pre ++ [x]) W'))
    (W : World) (hc : W.cell? ⟨Bs, 0, none⟩ = some (.slice A en ec)) (hA : Rds W n₀ A (ncs l)) (h0 : J [] W) :
    CallsIn F n Tryz.prog 92 #[.func (.yield r) #[] #[], .pointer (some ⟨Bs, 0, none⟩)] W fun e W' => (∃ v, e = .returned v) ∧
      ((∃ ys, ys = upB (bkN l) en ∧ J ys W') ∨ (∃ pre, (∃ k, k ≤ en ∧ pre = upB (bkN l) k) ∧ Jx pre W')) := by
  refine callsIn_of_wp Tryz.func92 rfl hF ?_ hro
  simp only [Tryz.ntmps92, List.size_toArray, List.length_cons, List.length_nil, Nat.reduceAdd, Nat.reduceSub, Array.replicate_succ, Array.replicate_zero, List.push_toArray, List.append_toArray, List.nil_append, List.cons_append]
  gi_wp2
  gi_loopw [3] (fun i wr => ∃ k : Nat, k ≤ en ∧ i = .int .i64 (((en - k : Nat) : Int) - 1) ∧ J (upB (bkN l) k) wr ∧ Below n₀ W wr) (fun i _ => (intOf i + 1).toNat)
  case atStart => exact ⟨0, Nat.zero_le _, rfl, h0, Below.refl _ _⟩
  case round =>
    obtain ⟨k, hk, rfl, hJs, hnx⟩ := hrel
    have hcx : wr.cell? ⟨Bs, 0, none⟩ = some (.slice A en ec) := (hnx.cell (p := ⟨Bs, 0, none⟩) hBs).trans hc
    by_cases hlt : k < en
    · obtain ⟨j, hj⟩ : ∃ j, en - k = j + 1 := ⟨en - k - 1, by omega⟩
      obtain ⟨p, hp⟩ : ∃ p, l[j]? = some p := ⟨_, List.getElem?_eq_getElem (by omega)⟩
      have hbk : bkN l k = (j, p) := by
        unfold bkN
        rw [show l.length - 1 - k = j by omega, List.getD_eq_getElem?_getD, hp]; rfl
      rw [hj, show (((j + 1 : Nat) : Int) - 1) = (j : Int) by omega]
      obtain ⟨x1, o1, rfl, hx1, hc1⟩ := hA (by rw [ncs_len]; omega)
      have e0 : wr.cell? ⟨x1, o1 + j * 3, none⟩ = some (.string p.v) := (hnx.cell (p := ⟨x1, _, none⟩) hx1).trans (hc1 _ _ (ncs_at hp 0 _ rfl))
      have e1 : wr.cell? ⟨x1, o1 + j * 3 + 1, none⟩ = some (.int .i64 p.a) := (hnx.cell (p := ⟨x1, _, none⟩) hx1).trans (by have := hc1 _ _ (ncs_at hp 1 _ rfl); rwa [← Nat.add_assoc] at this)
      have e2 : wr.cell? ⟨x1, o1 + j * 3 + 2, none⟩ = some (.int .i64 p.k) := (hnx.cell (p := ⟨x1, _, none⟩) hx1).trans (by have := hc1 _ _ (ncs_at hp 2 _ rfl); rwa [← Nat.add_assoc] at this)
      have i0 : (0 : Int) ≤ (j : Int) := by omega
      have i1 : (j : Int) < (en : Int) := by omega
      have j1 : decide ((0 : Int) ≤ (j : Int)) = true := by simp
      obtain ⟨fn, tmps, assign, body, hy, hR⟩ := hY _ (j, p) wr hJs (by rw [upB_len]; exact hlt)
      dsimp only [encN] at hy
      gi_wp2
      refine hR.mono ?_
      rintro e W3 (⟨rfl, hJ3, hk3⟩ | ⟨rfl, hJx3⟩)
      · gi_wp2
        go_roundw
        case rel => exact ⟨k + 1, by omega, by rw [show en - (k + 1) = j by omega], by rw [upB_succ, hbk]; exact hJ3, hnx.trans hk3⟩
        case measure => simp [intOf]
      · gi_wp2
        refine bodyPost_ret (results_none rfl _ _ _) rfl ?_
        exact ⟨⟨_, rfl⟩, .inr ⟨_, ⟨k + 1, by omega, by rw [upB_succ, hbk]⟩, hJx3⟩⟩
    · obtain rfl : k = en := by omega
      rw [show (((k - k : Nat) : Int) - 1) = -1 by omega]
      gi_wp2
      go_end0
      exact ⟨⟨_, rfl⟩, .inl ⟨_, rfl, hJs⟩⟩
theorem back_stops (F : Fence) (n : Nat) (hF : F.fn 92) (hro : F.round = none) (hn : 1 ≤ n) (Bs n₀ : Nat) (A : Option Addr) (en ec : Nat) (l : List Nce) (hl : l.length = en) (hen : en ≤ 2000000) (hBs : Bs < n₀) (w : World) (hn₀ : n₀ ≤ w.heap.size)
    (hc : w.cell? ⟨Bs, 0, none⟩ = some (.slice A en ec)) (hA : Rds w n₀ A (ncs l)) :
    SeqStopsK F n Tryz.prog 92 #[.pointer (some ⟨Bs, 0, none⟩)] encN (Below n₀) (fun ys => ys = upB (bkN l) en) (fun pre => ∃ k, k ≤ en ∧ pre = upB (bkN l) k) en w := fun r J Jx W hW _ _ hY h0 =>
  back1_in F n hF hro hn r Bs n₀ A en ec l hl hen hBs J Jx hY W (((hW.mono hn₀).cell (p := ⟨Bs, 0, none⟩) hBs).trans hc) (hA.below (hW.mono hn₀)) h0
end Go.Proofs.YtfhbpgickkibmaaGreatDoor
namespace Go.Proofs.YtfhbpgickkibmaaGreatDoor
open Go.RowKit

/-- auth's Verify answers what the plain law says. -/
def VerifyHolds : Prop := ∀ (re ke ms uri rsn : ByteArray) (life iss code now : Int) (Ea U A B : Option Addr) (en ec un uc n c m d : Nat) (l : List Nce) (us hs : List (ByteArray × ByteArray)) (bs : List Int) (w : World)
    (hE : Rds w w.heap.size Ea (ncs l)) (hen : l.length = en) (henN : en ≤ 2000000) (hU : Rds w w.heap.size U (hds us)) (hun : us.length = un) (hunN : un ≤ 16000000) (hus : ∀ h ∈ us, h.2.size ≤ 4000000)
    (hA : Rds w w.heap.size A (hds hs)) (hn : hs.length = n) (hN : n ≤ 4000000) (hl : ∀ h ∈ hs, h.1.size ≤ 4000000 ∧ h.2.size ≤ 4000000) (hb : By bs) (hm : bs.length = m) (hM : m ≤ 16000000) (hB : Bs w w.heap.size B bs)
    (s1 : re.size ≤ 4000000) (s2 : ke.size ≤ 4000000) (s7 : ms.size ≤ 4000000) (s8 : uri.size ≤ 4000000), (Ea = none → en = 0 ∧ ec = 0) → KC w → SC w → Calls Tryz.prog 25 #[.agg #[.string re, .string ke, .int .i64 life, .int .i64 iss, .slice Ea en ec], .slice U un uc, .agg #[.string ms, .string uri, .int .i64 code, .string rsn, .slice A n c, .slice B m d], .int .i64 now] w (VerP (verL re ke life iss code now l us hs ms uri bs) w)
theorem nonceV_len (life now : Int) (l : List Nce) (c : Cr) : (nonceV life now l c).2.length = l.length := by
  unfold nonceV
  split
  · rfl
  · split
    · rfl
    · split
      · rfl
      · exact List.length_set
theorem verL_len {re ke ms uri : ByteArray} {life iss code now : Int} {l : List Nce} {us hs : List (ByteArray × ByteArray)} {bs : List Int} (h : l.length ≤ 16000000) : (verL re ke life iss code now l us hs ms uri bs).l.length ≤ 16000000 := by
  unfold verL
  split
  · exact Nat.zero_le _
  · split
    · exact h
    · split
      · exact h
      · dsimp only
        rw [nonceV_len]
        exact h
section
variable {w : World} {b : Nat} {T : TypeId} {x0 x1 x2 x3 x4 y0 y1 : Value}
theorem desk0 (h : Row w b T [x0, x1, x2, x3, x4, y0, y1]) : w.rangeAt b 0 [x0, x1, x2, x3, x4] := Row.at (pre := []) (cs := [x0, x1, x2, x3, x4]) (post := [y0, y1]) h
end
set_option maxRecDepth 100000 in
set_option maxHeartbeats 4000000 in
theorem verifies_of (HV : VerifyHolds) (re ke ms uri rsn : ByteArray) (life iss code now : Int) (Ea U A B : Option Addr) (en ec un uc n c m d : Nat) (l : List Nce) (us hs : List (ByteArray × ByteArray)) (bs : List Int) (w : World)
    (hE : Rds w w.heap.size Ea (ncs l)) (hen : l.length = en) (henN : en ≤ 1048576) (hU : Rds w w.heap.size U (hds us)) (hun : us.length = un) (hunN : un ≤ 1048576) (hus : ∀ h ∈ us, h.2.size ≤ 1048576)
    (hA : Rds w w.heap.size A (hds hs)) (hn : hs.length = n) (hN : n ≤ 1048576) (hl : ∀ h ∈ hs, h.1.size ≤ 1048576 ∧ h.2.size ≤ 1048576) (hb : By bs) (hm : bs.length = m) (hM : m ≤ 1048576) (hB : Bs w w.heap.size B bs)
    (s1 : re.size ≤ 1048576) (s2 : ke.size ≤ 1048576) (s7 : ms.size ≤ 1048576) (s8 : uri.size ≤ 1048576) (hnil : Ea = none → en = 0 ∧ ec = 0) (hG : GM w) (hK : KC w) (hS : SC w) :
    Calls Tryz.prog 6 #[.agg #[.string re, .string ke, .int .i64 life, .int .i64 iss, .slice Ea en ec, .slice U un uc, .int .i64 now], .agg #[.string ms, .string uri, .int .i64 code, .string rsn, .slice A n c, .slice B m d]] w fun e w' => e = .returned (.bool true) ∧ Below w.heap.size w w' := by
  have AN := Lib.hid (fun (X : World) (b : Below w.heap.size w X) => HV re ke ms uri rsn life iss code now Ea U A B en ec un uc n c m d l us hs bs X ((hE.below b).up b.size) hen (by omega) ((hU.below b).up b.size) hun (by omega) (fun h hh => by have := hus h hh; omega) ((hA.below b).up b.size) hn (by omega) (fun h hh => by have := hl h hh; omega) hb hm (by omega) ((hB.below b).up b.size) (by omega) (by omega) (by omega) (by omega) hnil (hK.below b) (hS.below b))
  have RN := Lib.hid (fun (X : World) (b : Below w.heap.size w X) => refverify_any re ke ms uri rsn life iss code now Ea U A B en ec un uc n c m d l us hs bs X ((hE.below b).up b.size) hen (by omega) ((hU.below b).up b.size) hun (by omega) (fun h hh => by have := hus h hh; omega) ((hA.below b).up b.size) hn (by omega) (fun h hh => by have := hl h hh; omega) hb hm (by omega) ((hB.below b).up b.size) (by omega) (by omega) (by omega) (by omega))
  have hVl := verL_len (re := re) (ke := ke) (life := life) (iss := iss) (code := code) (now := now) (l := l) (us := us) (hs := hs) (ms := ms) (uri := uri) (bs := bs) (by omega : l.length ≤ 16000000)
  generalize verL re ke life iss code now l us hs ms uri bs = V at *
  have HL16 := Lib.hid (show ∀ k : Nat, k ≤ 1048576 → k ≤ 16000000 from fun _ h => by omega)
  have HG := Lib.hid hG; have HU := Lib.hid hU; have HUN := Lib.hid hun
  clear HV hnil hE hen hU hun hus hA hn hl hb hm hB hG hK hS HL16
  have R2 := Lib.hid (show Row ((w.alloc (.cells #[.string re, .string ke, .int .i64 life, .int .i64 iss, .slice Ea en ec, .slice U un uc, .int .i64 now] 52)).alloc (.cells #[.string ms, .string uri, .int .i64 code, .string rsn, .slice A n c, .slice B m d] 41)) w.heap.size 52 [.string re, .string ke, .int .i64 life, .int .i64 iss, .slice Ea en ec, .slice U un uc, .int .i64 now] from (Row.new w 52 [.string re, .string ke, .int .i64 life, .int .i64 iss, .slice Ea en ec, .slice U un uc, .int .i64 now]).alloc _)
  have R3 := Lib.hid (show Row ((w.alloc (.cells #[.string re, .string ke, .int .i64 life, .int .i64 iss, .slice Ea en ec, .slice U un uc, .int .i64 now] 52)).alloc (.cells #[.string ms, .string uri, .int .i64 code, .string rsn, .slice A n c, .slice B m d] 41)) (w.heap.size + 1) 41 [.string ms, .string uri, .int .i64 code, .string rsn, .slice A n c, .slice B m d] by
    have h := Row.new (w.alloc (.cells #[.string re, .string ke, .int .i64 life, .int .i64 iss, .slice Ea en ec, .slice U un uc, .int .i64 now] 52)) 41 [.string ms, .string uri, .int .i64 code, .string rsn, .slice A n c, .slice B m d]
    rwa [World.size_alloc] at h)
  have B0 := Lib.hid (show Below w.heap.size w ((w.alloc (.cells #[.string re, .string ke, .int .i64 life, .int .i64 iss, .slice Ea en ec, .slice U un uc, .int .i64 now] 52)).alloc (.cells #[.string ms, .string uri, .int .i64 code, .string rsn, .slice A n c, .slice B m d] 41)) from ((Below.refl _ _).alloc (Nat.le_refl _) _).alloc (by simp) _)
  go_enter Tryz.func6, Tryz.ntmps6
  go_wp2_with (with_reducible refine wpList_loadR rfl 41 (.tmp 3) rfl R3.out rfl Tryz.underlying41 rfl (sizeL6 _ _ _ _ _ _) ?_)
  generalize (w.alloc (.cells #[.string re, .string ke, .int .i64 life, .int .i64 iss, .slice Ea en ec, .slice U un uc, .int .i64 now] 52)).alloc (.cells #[.string ms, .string uri, .int .i64 code, .string rsn, .slice A n c, .slice B m d] 41) = W at *
  refine (light_any ms uri rsn code A B n c m d W).mono ?_
  rintro e w1 ⟨rfl, hb1⟩
  have R2' := Lib.hid (R2.out.below hb1)
  have R3' := Lib.hid (R3.out.below hb1)
  have B1 := Lib.hid (bthen B0.out hb1)
  clear hb1 R2 R3 B0
  have R2 := R2'; have R3 := R3'
  clear R2' R3'
  have e5 : w1.cell? ⟨w.heap.size, 5, none⟩ = some (.slice U un uc) := R2.out.cell 5
  have m0 : w1.cell? ⟨w.heap.size + 1, 0, none⟩ = some (.string ms) := R3.out.cell 0
  have m1 : w1.cell? ⟨w.heap.size + 1, 1, none⟩ = some (.string uri) := R3.out.cell 1
  cases hli : (decide (n ≤ 100) && decide (m ≤ 3000)) with
  | false =>
    clear hli e5 m0 m1
    go_wp2_with fail
    refine (awake_any _ (HG.out.below B1.out)).mono ?_
    rintro e w2 ⟨rfl, hb2⟩
    have B2 := Lib.hid (bthen B1.out hb2)
    clear hb2
    go_wp2_with fail
    go_ret
    exact ⟨rfl, B2.out⟩
  | true =>
    clear hli
    by_cases k1 : 100 < un
    · have d1 : decide ((100 : Int) < (un : Int)) = true := by simp; omega
      have d1n : decide (100 < un) = true := by simp [k1]
      clear k1
      go_wp2_with fail
      refine (awake_any _ (HG.out.below B1.out)).mono ?_
      rintro e w2 ⟨rfl, hb2⟩
      have B2 := Lib.hid (bthen B1.out hb2)
      clear hb2
      go_wp2_with fail
      go_ret
      exact ⟨rfl, B2.out⟩
    have d1 : decide ((100 : Int) < (un : Int)) = false := by simp; omega
    have d1n : decide (100 < un) = false := by simp; omega
    by_cases k2 : 3000 < uri.size + ms.size
    · have d2 : decide ((3000 : Int) < (uri.size : Int) + (ms.size : Int)) = true := by simp; omega
      clear k1 k2
      go_wp2_with fail
      refine (awake_any _ (HG.out.below B1.out)).mono ?_
      rintro e w2 ⟨rfl, hb2⟩
      have B2 := Lib.hid (bthen B1.out hb2)
      clear hb2
      go_wp2_with fail
      go_ret
      exact ⟨rfl, B2.out⟩
    have d2 : decide ((3000 : Int) < (uri.size : Int) + (ms.size : Int)) = false := by simp; omega
    clear k1 k2
    go_wp2_with fail
    clear d1 d1n d2 m0 m1
    have HU1 := Lib.hid (HU.out.below B1.out)
    go_loopw [5] (fun v wr => ∃ k : Nat, k ≤ un ∧ v = .int .i64 k ∧ Hid (wr = w1)) (fun v _ => un - (intOf v).toNat)
    case atStart => exact ⟨0, Nat.zero_le _, rfl, by first | exact Lib.hid rfl | exact Lib.hid trivial⟩
    case round =>
    obtain ⟨k, hk, rfl, HW⟩ := hrel
    obtain rfl := HW.out
    clear HW
    by_cases hlt : k < un
    · have hd : decide (k < un) = true := by simp [hlt]
      have hd2 : decide ((k : Int) < (un : Int)) = true := by simp; omega
      obtain ⟨p, hp⟩ : ∃ p, us[k]? = some p := ⟨_, List.getElem?_eq_getElem (by rw [HUN.out]; exact hlt)⟩
      obtain ⟨x1, o1, rfl, hx1, hc1⟩ := HU1.out (by rw [hds_len, HUN.out]; omega)
      have c1 : wr.cell? ⟨x1, o1 + k * 2 + 1, none⟩ = some (.string p.2) := Rds.range (B := 0) hc1 (k * 2) _ (hds_at hp) 1 _ rfl
      clear hc1 hp
      by_cases k3 : 3000 < p.2.size
      · have d3 : decide ((3000 : Int) < (p.2.size : Int)) = true := by simp; omega
        have d3n : decide (3000 < p.2.size) = true := by simp [k3]
        clear k3
        go_wp2_with fail
        refine (awake_any _ (HG.out.below B1.out)).mono ?_
        rintro e w2 ⟨rfl, hb2⟩
        have B2 := Lib.hid (bthen B1.out hb2)
        clear hb2
        go_wp2_with fail
        go_ret
        exact ⟨rfl, B2.out⟩
      · have d3 : decide ((3000 : Int) < (p.2.size : Int)) = false := by simp; omega
        have d3n : decide (3000 < p.2.size) = false := by simp; omega
        clear k3
        go_wp2_with fail
        go_roundw
        case rel => exact ⟨k + 1, by omega, by go_num, by first | exact Lib.hid rfl | exact Lib.hid trivial⟩
        case measure => simp [intOf]; omega
    obtain rfl : k = un := by omega
    clear e5
    have G0 := Lib.hid (show wr.rangeAt w.heap.size 0 [.string re, .string ke, .int .i64 life, .int .i64 iss, .slice Ea en ec] from desk0 R2.out)
    have e5 : wr.cell? ⟨w.heap.size, 5, none⟩ = some (.slice U k uc) := R2.out.cell 5
    have e6 : wr.cell? ⟨w.heap.size, 6, none⟩ = some (.int .i64 now) := R2.out.cell 6
    go_wp2_with (first
      | (with_reducible refine wpList_load_mid rfl 49 (.tmp 49) rfl w.heap.size 0 rfl [.string re, .string ke, .int .i64 life, .int .i64 iss, .slice Ea en ec] _ G0.out Tryz.underlying49 rfl (sizeG _ _ _ _ _) ?_)
      | (with_reducible refine wpList_loadR rfl 41 (.tmp 3) rfl R3.out rfl Tryz.underlying41 rfl (sizeL6 _ _ _ _ _ _) ?_))
    clear G0 e5 e6
    refine (AN.out _ B1.out).mono ?_
    rintro e X ⟨hbx, A1, c1, rfl, hA1⟩
    have R2' := Lib.hid (R2.out.below hbx)
    have R3' := Lib.hid (R3.out.below hbx)
    have BX := Lib.hid (bthen B1.out hbx)
    clear hbx R2 R3 B1
    have N5 := Lib.hid (Row.new X 49 [.string ⟨#[]⟩, .string ⟨#[]⟩, .int .i64 0, .int .i64 0, .slice none 0 0])
    have BA5 := Lib.hid ((Below.refl X.heap.size X).alloc (Nat.le_refl _) (.cells #[.string ⟨#[]⟩, .string ⟨#[]⟩, .int .i64 0, .int .i64 0, .slice none 0 0] 49))
    go_wp2_with (with_reducible refine wpList_storeR rfl 49 (.tmp 6) (.tmp 57) rfl N5.out [.string V.re, .string V.ke, .int .i64 V.life, .int .i64 V.iss, .slice A1 V.l.length c1] rfl rfl (lenG _ _ _ _ _ _ _ _ _ _) (sizeG _ _ _ _ _) (g_one _ _ _ _ _ _ _) BA5.out (Nat.le_refl _) ?_)
    intro X5 R5 B5 _
    have R2 := Lib.hid (R2'.out.below B5.out)
    have R3 := Lib.hid (R3'.out.below B5.out)
    have BX5 := Lib.hid (bthen BX.out B5.out)
    have HA1 := Lib.hid ((hA1.below B5.out).up B5.out.size)
    clear R2' R3' BX N5 BA5 B5 hA1
    have G0 := Lib.hid (show X5.rangeAt w.heap.size 0 [.string re, .string ke, .int .i64 life, .int .i64 iss, .slice Ea en ec] from desk0 R2.out)
    have e5 : X5.cell? ⟨w.heap.size, 5, none⟩ = some (.slice U k uc) := R2.out.cell 5
    have e6 : X5.cell? ⟨w.heap.size, 6, none⟩ = some (.int .i64 now) := R2.out.cell 6
    go_wp2_with (first
      | (with_reducible refine wpList_load_mid rfl 49 (.tmp 61) rfl w.heap.size 0 rfl [.string re, .string ke, .int .i64 life, .int .i64 iss, .slice Ea en ec] _ G0.out Tryz.underlying49 rfl (sizeG _ _ _ _ _) ?_)
      | (with_reducible refine wpList_loadR rfl 41 (.tmp 3) rfl R3.out rfl Tryz.underlying41 rfl (sizeL6 _ _ _ _ _ _) ?_))
    clear G0 e5 e6
    refine (RN.out _ BX5.out).mono ?_
    rintro e Y ⟨hby, A2, c2, rfl, hA2⟩
    have BY' := Lib.hid (bthen BX5.out hby)
    have R5' := Lib.hid (R5.out.below hby)
    have HA1' := Lib.hid ((HA1.out.below hby).up hby.size)
    clear hby R2 R3 R5 HA1 BX5
    have N7 := Lib.hid (Row.new Y 49 [.string ⟨#[]⟩, .string ⟨#[]⟩, .int .i64 0, .int .i64 0, .slice none 0 0])
    have BA7 := Lib.hid ((Below.refl Y.heap.size Y).alloc (Nat.le_refl _) (.cells #[.string ⟨#[]⟩, .string ⟨#[]⟩, .int .i64 0, .int .i64 0, .slice none 0 0] 49))
    go_wp2_with (with_reducible refine wpList_storeR rfl 49 (.tmp 9) (.tmp 69) rfl N7.out [.string V.re, .string V.ke, .int .i64 V.life, .int .i64 V.iss, .slice A2 V.l.length c2] rfl rfl (lenG _ _ _ _ _ _ _ _ _ _) (sizeG _ _ _ _ _) (g_one _ _ _ _ _ _ _) BA7.out (Nat.le_refl _) ?_)
    intro Y7 R7 B7 _
    have R5 := Lib.hid (R5'.out.below B7.out)
    have HA1 := Lib.hid ((HA1'.out.below B7.out).up B7.out.size)
    have HA2 := Lib.hid ((hA2.below B7.out).up B7.out.size)
    have BZ := Lib.hid (bthen BY'.out B7.out)
    clear R5' HA1' hA2 BY' N7 BA7 B7
    go_wp2_with (first
      | (with_reducible refine wpList_loadR rfl 49 (.tmp 6) rfl R5.out rfl Tryz.underlying49 rfl (sizeG _ _ _ _ _) ?_)
      | (with_reducible refine wpList_loadR rfl 49 (.tmp 9) rfl R7.out rfl Tryz.underlying49 rfl (sizeG _ _ _ _ _) ?_))
    refine (same07_any V.re V.ke V.life V.iss A1 A2 V.l.length c1 c2 V.l _ HA1.out HA2.out rfl hVl).mono ?_
    rintro e Z ⟨rfl, hbz⟩
    have BW := Lib.hid (bthen BZ.out hbz)
    clear hbz
    go_wp2_with fail
    refine (awake_any _ (HG.out.below BW.out)).mono ?_
    rintro e w9 ⟨rfl, hb9⟩
    have B9 := Lib.hid (bthen BW.out hb9)
    clear hb9
    go_wp2_with fail
    go_ret
    exact ⟨rfl, B9.out⟩
end Go.Proofs.YtfhbpgickkibmaaGreatDoor
namespace Go.Proofs.YtfhbpgickkibmaaGreatDoor
open Go.RowKit Go.Shelf

attribute [local go_sem] Oper.semAt_some
theorem row_own {β : Type} (b : Nat) (T : TypeId) (f : β → List Value) : Own (fun s W => Row W b T (f s)) := fun s X Y row hs hg hrow =>
  (hg.block b hs.lt (fun e => by obtain ⟨o, ho, hc⟩ := hrow b e.symm; rw [show X.heap[b]? = _ from hs] at ho; cases ho; cases hc)).trans hs
theorem Row.put {w : World} {b D : Nat} {T : TypeId} {vs : List Value} {ds : Option (List Deferred)} {o : Obj} (h : Row w b T vs) (hD : w.heap[D]? = some (.deferred ds)) : Row (w.putObj D o) b T vs :=
  (World.putObj_heap_other (fun e => by subst e; rw [show w.heap[b]? = _ from h] at hD; cases hD)).trans h
theorem Rds.put {w : World} {A : Option Addr} {cs : List Value} {D : Nat} {ds : Option (List Deferred)} {o : Obj} (h : Rds w w.heap.size A cs) (hD : w.heap[D]? = some (.deferred ds)) : Rds (w.putObj D o) (w.putObj D o).heap.size A cs := fun hn => by
  obtain ⟨b, o', e, hb, hc⟩ := h hn
  refine ⟨b, o', e, by simpa [World.putObj] using hb, fun j u hu => cell_kept (hc j u hu) (grownBy_putObj' w D o) (fun r e => by cases e; exact ⟨_, hD, rfl⟩)⟩
theorem leavesM_ret1 {n D : Nat} {fn : Func} {a : Act} {w : World} {v : Value} {R : Ending → World → Prop} (hd : a.defers = [{ target := .collected D, args := #[] }]) (hD : w.heap[D]? = some (.deferred (some [])))
    (hr : (results fn a.tmps).run Tryz.prog (w.putObj D (.deferred none)) = .ok v (w.putObj D (.deferred none))) (hR : R (.returned v) (w.putObj D (.deferred none))) : bodyPostM Fence.wide n Tryz.prog fn R .ret a w := by
  show LeavesInM Fence.wide n Tryz.prog fn a.tmps R a.defers .returning w
  rw [hd]
  exact ⟨by simp, .inl ⟨_, _, rfl, run_takeDeferred hD, ⟨v, hr, hR⟩⟩⟩
/-- The index that the last round has handed. -/
def lastI (pre : List (Nat × Nce)) : Int := match pre.getLast? with | some x => (x.1 : Int) | none => 0
theorem lastI_snoc (pre : List (Nat × Nce)) (x : Nat × Nce) : lastI (pre ++ [x]) = (x.1 : Int) := by unfold lastI; rw [List.getLast?_concat]
theorem findB_upto {l : List Nce} {nn : ByteArray} : ∀ k, k ≤ l.length → (∀ x ∈ upB (bkN l) k, hitN nn x.2 = false) → findB l nn = findBk l nn (l.length - k)
  | 0, _, _ => rfl
  | k + 1, hk, h => by
    rw [upB_succ] at h
    rw [findB_upto k (by omega) (fun x hx => h x (List.mem_append_left _ hx))]
    obtain ⟨p, hp⟩ : ∃ p, l[l.length - 1 - k]? = some p := ⟨_, List.getElem?_eq_getElem (by omega)⟩
    have h2 := h (bkN l k) (List.mem_append_right _ (List.mem_singleton.2 rfl))
    unfold bkN at h2
    rw [List.getD_eq_getElem?_getD, hp] at h2
    rw [show l.length - k = l.length - 1 - k + 1 by omega, findBk_no hp h2, show l.length - (k + 1) = l.length - 1 - k by omega]
theorem findB_none {l : List Nce} {nn : ByteArray} (h : ∀ x ∈ upB (bkN l) l.length, hitN nn x.2 = false) : findB l nn = none := by
  rw [findB_upto l.length (Nat.le_refl _) h, Nat.sub_self]; rfl
theorem findB_some {l : List Nce} {nn : ByteArray} {k : Nat} {ini : List (Nat × Nce)} {x : Nat × Nce} (hk : k ≤ l.length) (he : ini ++ [x] = upB (bkN l) k) (h : ∀ y ∈ ini, hitN nn y.2 = false) (hx : hitN nn x.2 = true) : findB l nn = some x.1 := by
  cases k with
  | zero => exact absurd (congrArg List.length he) (by simp [upB])
  | succ k =>
    rw [upB_succ] at he
    obtain ⟨rfl, h2⟩ := List.append_inj' he rfl
    injection h2 with h3 _
    subst h3
    rw [findB_upto k (by omega) h]
    obtain ⟨p, hp⟩ : ∃ p, l[l.length - 1 - k]? = some p := ⟨_, List.getElem?_eq_getElem (by omega)⟩
    unfold bkN at hx
    rw [List.getD_eq_getElem?_getD, hp] at hx
    rw [show l.length - k = l.length - 1 - k + 1 by omega]
    exact findBk_yes hp hx
theorem heapD {w w' : World} {D : Nat} {o : Obj} (h : w.heap[D]? = some o) (hb : Below w.heap.size w w') : w'.heap[D]? = some o := (hb.block D (Array.getElem?_eq_some_iff.1 h).1).trans h
theorem findBk_lt {l : List Nce} {nn : ByteArray} {i : Nat} : ∀ k, findBk l nn k = some i → i < l.length
  | 0, h => by cases h
  | k + 1, h => by
    unfold findBk at h
    split at h
    · rename_i p hp
      split at h
      · injection h with h; subst h; exact (List.getElem?_eq_some_iff.1 hp).1
      · exact findBk_lt k h
    · exact findBk_lt k h
theorem VX.room {w wr : World} {A : Option Addr} {n c : Nat} {l : List Nce} (H : VX 76 3 w (.slice A n c) n (ncs l) wr) (h0 : 0 < n) :
    ∃ g, A = some ⟨g, 0, none⟩ ∧ w.heap.size ≤ g ∧ g < wr.heap.size ∧ (∀ o, wr.frozen? ⟨g, o, none⟩ = false) ∧ ∀ i u, (ncs l)[i]? = some u → wr.cell? ⟨g, i, none⟩ = some u := by
  rcases H.form with ⟨_, h, _⟩ | ⟨g, cap, e, _, hg, hlt, hcell⟩
  · omega
  · injection e with e1 _ _
    subst e1
    refine ⟨g, rfl, hg, hlt, fun o => ?_, hcell⟩
    rcases H.o.2 with ⟨e0, _⟩ | ⟨gb, gc, cur, e2, _, hblk, _⟩
    · cases e0
    · injection e2 with e3 _ _
      injection e3 with e4
      injection e4 with e5
      subst e5
      simp [World.frozen?, hblk]
def AllOff (nn : ByteArray) (pre : List (Nat × Nce)) : Prop := ∀ x ∈ pre, hitN nn x.2 = false
def Hits (nn : ByteArray) (pre : List (Nat × Nce)) : Prop := ∃ ini x, pre = ini ++ [x] ∧ AllOff nn ini ∧ hitN nn x.2 = true
set_option maxRecDepth 100000 in
set_option maxHeartbeats 4000000 in
theorem range25 (v0 v1 v2 v3 v4 v5 v6 v7 v8 v9 v10 v12 v13 v14 v15 v17 v18 v19 v20 v21 v22 v23 v24 v25 v26 v27 v28 v29 v30 v31 v32 v33 v34 v35 v36 v37 v38 v39 v40 v41 v42 v43 v44 v45 v46 v47 v48 v49 v50 v51 v52 v53 v54 v55 v56 v57 v58 v59 v60 v61 v62 v63 v64 v65 v66 v67 v68 v69 v70 v71 v72 v73 v74 v75 v76 v77 v78 v79 v80 v81 v82 v83 v84 v85 v86 v87 v88 v89 v91 v92 v93 v94 v95 v96 v97 v98 v99 v100 v101 v102 v103 v104 v105 v106 v107 v108 v109 v110 v111 v112 v113 v114 v115 v116 v117 v118 v119 v120 v121 v122 v123 v124 v125 v126 v127 v128 v129 v130 v131 v132 v133 v134 : Value) (bc : Nat) (A2 : Option Addr) (en c2 : Nat) (l : List Nce) (nn : ByteArray) (wx : World) (Q : Exit → Act → World → Prop)
    (hl : l.length = en) (hen : en ≤ 2000000) (hA : Rds wx wx.heap.size A2 (ncs l)) (hbc : bc < wx.heap.size) (hc : wx.cell? ⟨bc, 2, none⟩ = some (.string nn))
    (hK : ∀ (D : Nat) (X : World), wx.heap.size ≤ D → Below wx.heap.size wx X → Row X wx.heap.size 3 [idxV (findB l nn)] → X.heap[D]? = some (.deferred (some [])) →
      Q .normal { tmps := #[v0, v1, v2, v3, v4, v5, v6, v7, v8, v9, v10, .pointer (some ⟨bc, 0, none⟩), v12, v13, v14, v15, .pointer (some ⟨wx.heap.size, 0, none⟩), v17, v18, v19, v20, v21, v22, v23, v24, v25, v26, v27, v28, v29, v30, v31, v32, v33, v34, v35, v36, v37, v38, v39, v40, v41, v42, v43, v44, v45, v46, v47, v48, v49, v50, v51, v52, v53, v54, v55, v56, v57, v58, v59, v60, v61, v62, v63, v64, v65, v66, v67, v68, v69, v70, v71, v72, v73, v74, v75, v76, v77, v78, v79, v80, v81, v82, v83, v84, v85, v86, v87, v88, v89, .func (.func 92) #[] #[.pointer (some ⟨wx.heap.size + 1, 0, none⟩)], v91, v92, v93, v94, v95, v96, v97, v98, v99, v100, v101, v102, v103, v104, v105, v106, v107, v108, v109, v110, v111, v112, v113, v114, v115, v116, v117, v118, v119, v120, v121, v122, v123, v124, v125, v126, v127, v128, v129, v130, v131, v132, v133, v134], defers := [{ target := .collected D, args := #[] }] } X ∧ Q (.exit 2) { tmps := #[v0, v1, v2, v3, v4, v5, v6, v7, v8, v9, v10, .pointer (some ⟨bc, 0, none⟩), v12, v13, v14, v15, .pointer (some ⟨wx.heap.size, 0, none⟩), v17, v18, v19, v20, v21, v22, v23, v24, v25, v26, v27, v28, v29, v30, v31, v32, v33, v34, v35, v36, v37, v38, v39, v40, v41, v42, v43, v44, v45, v46, v47, v48, v49, v50, v51, v52, v53, v54, v55, v56, v57, v58, v59, v60, v61, v62, v63, v64, v65, v66, v67, v68, v69, v70, v71, v72, v73, v74, v75, v76, v77, v78, v79, v80, v81, v82, v83, v84, v85, v86, v87, v88, v89, .func (.func 92) #[] #[.pointer (some ⟨wx.heap.size + 1, 0, none⟩)], v91, v92, v93, v94, v95, v96, v97, v98, v99, v100, v101, v102, v103, v104, v105, v106, v107, v108, v109, v110, v111, v112, v113, v114, v115, v116, v117, v118, v119, v120, v121, v122, v123, v124, v125, v126, v127, v128, v129, v130, v131, v132, v133, v134], defers := [{ target := .collected D, args := #[] }] } X) :
    Code.wp Tryz.prog (Code.rangeFunc (Operand.tmp 90) #[91, 92]
      ((Code.region 19 #[{ dst := some 17, op := Op.assign (Operand.tmp 91), type := 3, pos := "auth.go:221", after := #[], guard := none }] false).seq
        (Code.region 20 #[{ dst := some 18, op := Op.alloc 76, type := 0, pos := "auth.go:221", after := #[], guard := none },
          { dst := none, op := Op.store 76 (Operand.tmp 18) (Operand.tmp 92), type := 0, pos := "auth.go:221", after := #[{ on := 0, ground := Ground.data }, { on := 0, ground := Ground.phase }], guard := none }] false))
      (Code.block 3
        ((Code.region 21 #[{ dst := some 93, op := Op.fieldAddr 76 (Operand.tmp 18) 0, type := 0, pos := "auth.go:222", after := #[], guard := none },
            { dst := some 94, op := Op.load 9 (Operand.tmp 93), type := 9, pos := "auth.go:222", after := #[{ on := 0, ground := Ground.data }], guard := none },
            { dst := some 95, op := Op.fieldAddr 23 (Operand.tmp 11) 2, type := 0, pos := "auth.go:222", after := #[], guard := none },
            { dst := some 96, op := Op.load 9 (Operand.tmp 95), type := 9, pos := "auth.go:222", after := #[{ on := 2, ground := Ground.data }], guard := none },
            { dst := some 97, op := Op.binOp BinOp.eql 9 (Operand.tmp 94) (Operand.tmp 96) 9, type := 4, pos := "auth.go:222", after := #[{ on := 1, ground := Ground.data }, { on := 3, ground := Ground.data }], guard := none }] false).seq
          (Code.cond (Operand.tmp 97)
            ((Code.region 22 #[{ dst := some 98, op := Op.move (Operand.tmp 17), type := 3, pos := "auth.go:223", after := #[], guard := none },
                { dst := none, op := Op.store 3 (Operand.tmp 16) (Operand.tmp 98), type := 0, pos := "auth.go:223", after := #[{ on := 0, ground := Ground.data }, { on := 0, ground := Ground.phase }], guard := none }] false).seq
              (Code.exit 2))
            Code.skip)))) Q { tmps := #[v0, v1, v2, v3, v4, v5, v6, v7, v8, v9, v10, .pointer (some ⟨bc, 0, none⟩), v12, v13, v14, v15, .pointer (some ⟨wx.heap.size, 0, none⟩), v17, v18, v19, v20, v21, v22, v23, v24, v25, v26, v27, v28, v29, v30, v31, v32, v33, v34, v35, v36, v37, v38, v39, v40, v41, v42, v43, v44, v45, v46, v47, v48, v49, v50, v51, v52, v53, v54, v55, v56, v57, v58, v59, v60, v61, v62, v63, v64, v65, v66, v67, v68, v69, v70, v71, v72, v73, v74, v75, v76, v77, v78, v79, v80, v81, v82, v83, v84, v85, v86, v87, v88, v89, .func (.func 92) #[] #[.pointer (some ⟨wx.heap.size + 1, 0, none⟩)], v91, v92, v93, v94, v95, v96, v97, v98, v99, v100, v101, v102, v103, v104, v105, v106, v107, v108, v109, v110, v111, v112, v113, v114, v115, v116, v117, v118, v119, v120, v121, v122, v123, v124, v125, v126, v127, v128, v129, v130, v131, v132, v133, v134], defers := [] } ((wx.alloc (.cells #[.int .i64 (-1)] 3)).alloc (.cells #[.slice A2 en c2] 47)) := by
  have R1 : Row ((wx.alloc (.cells #[.int .i64 (-1)] 3)).alloc (.cells #[.slice A2 en c2] 47)) wx.heap.size 3 [.int .i64 (-1)] := (Row.new wx 3 [.int .i64 (-1)]).alloc _
  have R2 : Row ((wx.alloc (.cells #[.int .i64 (-1)] 3)).alloc (.cells #[.slice A2 en c2] 47)) (wx.heap.size + 1) 47 [.slice A2 en c2] := by
    have h := Row.new (wx.alloc (.cells #[.int .i64 (-1)] 3)) 47 [.slice A2 en c2]
    rwa [World.size_alloc] at h
  have BW0 : Below wx.heap.size wx ((wx.alloc (.cells #[.int .i64 (-1)] 3)).alloc (.cells #[.slice A2 en c2] 47)) := ((Below.refl _ _).alloc (Nat.le_refl _) _).alloc (by simp) _
  have HS : ((wx.alloc (.cells #[.int .i64 (-1)] 3)).alloc (.cells #[.slice A2 en c2] 47)).heap.size = wx.heap.size + 2 := by simp
  generalize ((wx.alloc (.cells #[.int .i64 (-1)] 3)).alloc (.cells #[.slice A2 en c2] 47)) = W at *
  have HSl : wx.heap.size + 2 ≤ W.heap.size := Nat.le_of_eq HS.symm
  have HSr : W.heap.size ≤ wx.heap.size + 2 := Nat.le_of_eq HS
  clear HS
  refine (wpIn_wide (n := 9)).1 ?_
  refine wpIn_rangeFunc_ownH rfl (by omega) (gf := 92) (lb := #[.pointer (some ⟨wx.heap.size + 1, 0, none⟩)]) rfl trivial (enters_of Tryz.func92 (by kernel_rfl) rfl)
    (back_stops Fence.wide 8 trivial rfl (by omega) (wx.heap.size + 1) W.heap.size A2 en c2 l hl hen (by omega) W (Nat.le_refl _) (R2.cell 0) ((hA.below BW0).up (by omega))) belowK_t (belowK_b (Nat.le_refl _)) (Below.refl _ _) (fun _ => rfl)
    (fun pre X => (AllOff nn pre ∧ Row X wx.heap.size 3 [.int .i64 (-1)]) ∧ Below wx.heap.size W X)
    (fun c pre X => ((c = .exit 2 ∧ Hits nn pre) ∧ Row X wx.heap.size 3 [.int .i64 (lastI pre)]) ∧ Below wx.heap.size W X)
    (OwnFrom.and (OwnFrom.and (ownFrom_pure _ _) ((row_own wx.heap.size 3 (fun _ => [.int .i64 (-1)])).from _)) (ownFrom_below (by omega) (by omega)))
    (fun c => OwnFrom.and (OwnFrom.and (ownFrom_pure _ (fun pre => c = .exit 2 ∧ Hits nn pre)) ((row_own wx.heap.size 3 (fun pre => [.int .i64 (lastI pre)])).from _)) (ownFrom_below (by omega) (by omega)))
    ⟨⟨(fun x hx => absurd hx List.not_mem_nil), R1⟩, Below.refl _ _⟩
    (fun x a' X => ∃ Bx, (wx.heap.size < Bx ∧ a' = { tmps := #[v0, v1, v2, v3, v4, v5, v6, v7, v8, v9, v10, .pointer (some ⟨bc, 0, none⟩), v12, v13, v14, v15, .pointer (some ⟨wx.heap.size, 0, none⟩), .int .i64 (x.1 : Int), .pointer (some ⟨Bx, 0, none⟩), v19, v20, v21, v22, v23, v24, v25, v26, v27, v28, v29, v30, v31, v32, v33, v34, v35, v36, v37, v38, v39, v40, v41, v42, v43, v44, v45, v46, v47, v48, v49, v50, v51, v52, v53, v54, v55, v56, v57, v58, v59, v60, v61, v62, v63, v64, v65, v66, v67, v68, v69, v70, v71, v72, v73, v74, v75, v76, v77, v78, v79, v80, v81, v82, v83, v84, v85, v86, v87, v88, v89, .func (.func 92) #[] #[.pointer (some ⟨wx.heap.size + 1, 0, none⟩)], .int .i64 (x.1 : Int), .agg #[.string x.2.v, .int .i64 x.2.a, .int .i64 x.2.k], v93, v94, v95, v96, v97, v98, v99, v100, v101, v102, v103, v104, v105, v106, v107, v108, v109, v110, v111, v112, v113, v114, v115, v116, v117, v118, v119, v120, v121, v122, v123, v124, v125, v126, v127, v128, v129, v130, v131, v132, v133, v134], defers := [] }) ∧ Row X Bx 76 [.string x.2.v, .int .i64 x.2.a, .int .i64 x.2.k])
    (fun x a' s A B row hs hg hr => by
      obtain ⟨Bx, h1, h2⟩ := hs
      exact ⟨Bx, h1, row_own Bx 76 (fun (_ : Unit) => [.string x.2.v, .int .i64 x.2.a, .int .i64 x.2.k]) () A B row h2 hg (fun r e => (hr r e).2)⟩) ?assign ?body ?done ?stop
  case assign =>
    intro lp pre x X K hi hX
    obtain ⟨⟨h1, h2⟩, h3⟩ := hi
    have HN := Lib.hid (show Row (X.alloc (.cells #[.string x.2.v, .int .i64 x.2.a, .int .i64 x.2.k] 76)) X.heap.size 76 [.string x.2.v, .int .i64 x.2.a, .int .i64 x.2.k] from Row.new X 76 [.string x.2.v, .int .i64 x.2.a, .int .i64 x.2.k])
    have HX := Lib.hid hX; have H1 := Lib.hid h1; have H2 := Lib.hid h2; have H3 := Lib.hid h3
    have HLT := Lib.hid h2.lt
    clear hX h1 h2 h3 hK hl hA hc R1 R2 BW0
    dsimp only [encN, List.size_toArray]
    gi_wp2
    exact HX.out _ _ ((KeepsOthers.alloc _ _).from _) ((Below.refl _ X).alloc H3.out.size _) ⟨⟨H1.out, H2.out.alloc _⟩, H3.out.alloc (by have := H3.out.size; omega) _⟩ ⟨X.heap.size, ⟨HLT.out, rfl⟩, HN.out⟩
  case body =>
    intro lp pre x a' X hlp hrec hi hax hlt
    obtain ⟨⟨h1, h2⟩, h3⟩ := hi
    obtain ⟨Bx, ⟨hBx, rfl⟩, hR⟩ := hax
    have e1 : X.cell? ⟨Bx, 0, none⟩ = some (.string x.2.v) := hR.cell 0
    have e2 : X.cell? ⟨bc, 2, none⟩ = some (.string nn) := (h3.cell (p := ⟨bc, 2, none⟩) hbc).trans ((BW0.cell (p := ⟨bc, 2, none⟩) hbc).trans hc)
    have e3 : X.cell? ⟨wx.heap.size, 0, none⟩ = some (.int .i64 (-1)) := h2.cell 0
    have f3 := h2.frozen 0
    have H1 := Lib.hid h1; have H2 := Lib.hid h2; have H3 := Lib.hid h3
    clear h1 h2 h3 hR hK hl hA hc R1 R2 BW0 hrec hBx
    cases hq : hitN nn x.2 with
    | true =>
      have HQ := Lib.hid hq
      have hq2 : (x.2.v.toList == nn.toList) = true := hq
      clear hq
      gi_wp2
      exact ⟨(KeepsOthers.setCell _ _ _).from _, ⟨⟨rfl, pre, x, rfl, H1.out, HQ.out⟩, by rw [lastI_snoc]; exact H2.out.set 0 _⟩, H3.out.setCell (Nat.le_refl _) _⟩
    | false =>
      have HQ := Lib.hid hq
      have hq2 : (x.2.v.toList == nn.toList) = false := hq
      clear hq
      gi_wp2
      exact ⟨(KeepsOthers.refl _).from _, Below.refl _ _, ⟨fun y hy => by
        rcases List.mem_append.1 hy with h | h
        · exact H1.out y h
        · rw [List.mem_singleton.1 h]; exact HQ.out, H2.out⟩, H3.out⟩
  case done =>
    intro D ys X hD hys hi hX
    obtain ⟨⟨h1, h2⟩, h3⟩ := hi
    subst hys
    have hf : findB l nn = none := findB_none (by rw [hl]; exact h1)
    exact (hK D X (by omega) (belowK_t BW0 h3) (by rw [hf]; exact h2) hX).1
  case stop =>
    intro D c pre X hD hS hi hX
    obtain ⟨k, hk, rfl⟩ := hS
    obtain ⟨⟨⟨rfl, ini, x, he, h0, h1⟩, h2⟩, h3⟩ := hi
    have hf : findB l nn = some x.1 := findB_some (by omega) he.symm h0 h1
    rw [he, lastI_snoc] at h2
    have HK := Lib.hid (hK D X (by omega) (belowK_t BW0 h3) (by rw [hf]; exact h2) hX).2
    clear hK hl hA hc R1 R2 BW0 h2 h3 he h0 h1 hf hX
    gi_wp2
    exact HK.out
end Go.Proofs.YtfhbpgickkibmaaGreatDoor
namespace Go.Proofs.YtfhbpgickkibmaaGreatDoor
open Go.RowKit Go.Shelf

theorem Rds.heapR {w w' : World} {A : Option Addr} {cs : List Value} {x : Nat} (h : Rds w w.heap.size A cs) (hp : ∀ b o s, A = some ⟨b, o, s⟩ → b ≠ x) (hs : w'.heap.size = w.heap.size) (hh : ∀ b', b' ≠ x → w'.heap[b']? = w.heap[b']?) : Rds w' w'.heap.size A cs := fun hn => by
  obtain ⟨b, o, e, hb, hc⟩ := h hn
  refine ⟨b, o, e, by rw [hs]; exact hb, fun j u hu => ?_⟩
  rw [World.cell?_of_block (w := w) (a := ⟨b, o + j, none⟩) (hh b (hp b o none e))]
  exact hc j u hu
theorem findK_lt {us : List (ByteArray × ByteArray)} {u : ByteArray} {k : Nat} (h : findK us u = some k) : k < us.length := by
  unfold findK at h
  rw [List.findIdx?_eq_some_iff_getElem] at h
  exact h.1
theorem leavesM_ret {n : Nat} {fn : Func} {a : Act} {w : World} {v : Value} {R : Ending → World → Prop} (hr : (results fn a.tmps).run Tryz.prog w = .ok v w) (hd : a.defers = []) (hR : R (.returned v) w) : bodyPostM Fence.wide n Tryz.prog fn R .ret a w := by
  show LeavesInM Fence.wide n Tryz.prog fn a.tmps R a.defers .returning w
  rw [hd]
  exact ⟨v, hr, hR⟩
set_option maxRecDepth 100000 in
set_option maxHeartbeats 4000000 in
theorem verify_any (re ke ms uri rsn : ByteArray) (life iss code now : Int) (Ea U A B : Option Addr) (en ec un uc n c m d : Nat) (l : List Nce) (us hs : List (ByteArray × ByteArray)) (bs : List Int) (w : World)
    (hE : Rds w w.heap.size Ea (ncs l)) (hen : l.length = en) (henN : en ≤ 2000000) (hU : Rds w w.heap.size U (hds us)) (hun : us.length = un) (hunN : un ≤ 16000000) (hus : ∀ h ∈ us, h.2.size ≤ 4000000)
    (hA : Rds w w.heap.size A (hds hs)) (hn : hs.length = n) (hN : n ≤ 4000000) (hl : ∀ h ∈ hs, h.1.size ≤ 4000000 ∧ h.2.size ≤ 4000000) (hb : By bs) (hm : bs.length = m) (hM : m ≤ 16000000) (hB : Bs w w.heap.size B bs)
    (s1 : re.size ≤ 4000000) (s2 : ke.size ≤ 4000000) (s7 : ms.size ≤ 4000000) (s8 : uri.size ≤ 4000000) (hnil : Ea = none → en = 0 ∧ ec = 0) (hK : KC w) (hS : SC w) :
    Calls Tryz.prog 25 #[.agg #[.string re, .string ke, .int .i64 life, .int .i64 iss, .slice Ea en ec], .slice U un uc, .agg #[.string ms, .string uri, .int .i64 code, .string rsn, .slice A n c, .slice B m d], .int .i64 now] w (VerP (verL re ke life iss code now l us hs ms uri bs) w) := by
  have VB := Lib.hid (fun h => verL_bad (us := us) (hs := hs) (ms := ms) (uri := uri) (bs := bs) (re := re) (ke := ke) (life := life) (iss := iss) (code := code) (now := now) (l := l) h)
  have VN := Lib.hid (fun h h2 => verL_none (us := us) (hs := hs) (ms := ms) (uri := uri) (bs := bs) (re := re) (ke := ke) (life := life) (iss := iss) (code := code) (now := now) (l := l) h h2)
  have VW := Lib.hid (fun q h h2 h3 => verL_wrong (c := q) (us := us) (hs := hs) (ms := ms) (uri := uri) (bs := bs) (re := re) (ke := ke) (life := life) (iss := iss) (code := code) (now := now) (l := l) h h2 h3)
  have VK := Lib.hid (fun q k l2 h h2 h3 h4 hk => verL_nonce (c := q) (k := k) (l2 := l2) (us := us) (hs := hs) (ms := ms) (uri := uri) (bs := bs) (re := re) (ke := ke) (life := life) (iss := iss) (code := code) (now := now) (l := l) h h2 h3 h4 hk)
  have VY := Lib.hid (fun q l2 h h2 h3 h4 => verL_yes (c := q) (l2 := l2) (us := us) (hs := hs) (ms := ms) (uri := uri) (bs := bs) (re := re) (ke := ke) (life := life) (iss := iss) (code := code) (now := now) (l := l) h h2 h3 h4)
  have BV := Lib.hid (show badV re ke life iss code now l = (!validG (byteL re) (byteL ke) life iss l || (code != 0 || (decide (now < 0) || decide (1099511627776 < now)))) from rfl)
  have POK := Lib.hid (fun q h => presL_ok (hs := hs) (rs := byteL re) (q := q) (fun h hh => (hl h hh).2) h)
  generalize verL re ke life iss code now l us hs ms uri bs = V at *
  have HEN := Lib.hid hen
  have S1 : (w.alloc (.cells #[.string re, .string ke, .int .i64 life, .int .i64 iss, .slice Ea en ec] 49)).heap.size = w.heap.size + 1 := World.size_alloc _ _
  have S2 : ((w.alloc (.cells #[.string re, .string ke, .int .i64 life, .int .i64 iss, .slice Ea en ec] 49)).alloc (.cells #[.string ms, .string uri, .int .i64 code, .string rsn, .slice A n c, .slice B m d] 41)).heap.size = w.heap.size + 1 + 1 := by rw [World.size_alloc, S1]
  have R4 := Lib.hid (show Row (((w.alloc (.cells #[.string re, .string ke, .int .i64 life, .int .i64 iss, .slice Ea en ec] 49)).alloc (.cells #[.string ms, .string uri, .int .i64 code, .string rsn, .slice A n c, .slice B m d] 41)).alloc (.cells #[.string ⟨#[]⟩, .string ⟨#[]⟩, .int .i64 0, .int .i64 0, .slice none 0 0] 49)) w.heap.size 49 [.string re, .string ke, .int .i64 life, .int .i64 iss, .slice Ea en ec] from ((Row.new w 49 [.string re, .string ke, .int .i64 life, .int .i64 iss, .slice Ea en ec]).alloc _).alloc _)
  have R6 := Lib.hid (show Row (((w.alloc (.cells #[.string re, .string ke, .int .i64 life, .int .i64 iss, .slice Ea en ec] 49)).alloc (.cells #[.string ms, .string uri, .int .i64 code, .string rsn, .slice A n c, .slice B m d] 41)).alloc (.cells #[.string ⟨#[]⟩, .string ⟨#[]⟩, .int .i64 0, .int .i64 0, .slice none 0 0] 49)) (w.heap.size + 1) 41 [.string ms, .string uri, .int .i64 code, .string rsn, .slice A n c, .slice B m d] by
    have h := Row.new (w.alloc (.cells #[.string re, .string ke, .int .i64 life, .int .i64 iss, .slice Ea en ec] 49)) 41 [.string ms, .string uri, .int .i64 code, .string rsn, .slice A n c, .slice B m d]
    rw [S1] at h
    exact h.alloc _)
  have R8 := Lib.hid (show Row (((w.alloc (.cells #[.string re, .string ke, .int .i64 life, .int .i64 iss, .slice Ea en ec] 49)).alloc (.cells #[.string ms, .string uri, .int .i64 code, .string rsn, .slice A n c, .slice B m d] 41)).alloc (.cells #[.string ⟨#[]⟩, .string ⟨#[]⟩, .int .i64 0, .int .i64 0, .slice none 0 0] 49)) (w.heap.size + 1 + 1) 49 [.string ⟨#[]⟩, .string ⟨#[]⟩, .int .i64 0, .int .i64 0, .slice none 0 0] by
    have h := Row.new ((w.alloc (.cells #[.string re, .string ke, .int .i64 life, .int .i64 iss, .slice Ea en ec] 49)).alloc (.cells #[.string ms, .string uri, .int .i64 code, .string rsn, .slice A n c, .slice B m d] 41)) 49 [.string ⟨#[]⟩, .string ⟨#[]⟩, .int .i64 0, .int .i64 0, .slice none 0 0]
    rw [S2] at h
    exact h)
  have BQ := Lib.hid (show Below w.heap.size w (((w.alloc (.cells #[.string re, .string ke, .int .i64 life, .int .i64 iss, .slice Ea en ec] 49)).alloc (.cells #[.string ms, .string uri, .int .i64 code, .string rsn, .slice A n c, .slice B m d] 41)).alloc (.cells #[.string ⟨#[]⟩, .string ⟨#[]⟩, .int .i64 0, .int .i64 0, .slice none 0 0] 49)) from (((Below.refl _ _).alloc (Nat.le_refl _) _).alloc (by rw [S1]; omega) _).alloc (by rw [S2]; omega) _)
  clear S1 S2
  have RV := Lib.hid (fun (X : World) (b : Below w.heap.size w X) => valid_any re ke life iss Ea en ec l X hen ((hE.below b).up b.size) (by omega) s1 s2)
  have HUS := Lib.hid hus
  have HBY := Lib.hid hb; have HM := Lib.hid hm
  have CL := Lib.hid (fun (X : World) (b : Below w.heap.size w X) => cloneN_any Ea en ec l X hen ((hE.below b).up b.size) hnil henN)
  have HA0 := Lib.hid hA; have HN := Lib.hid hn; have HL := Lib.hid hl; have HU := Lib.hid hU; have HUN := Lib.hid hun; have HK := Lib.hid hK; have HS := Lib.hid hS
  clear hU hun hus hA hn hl hb hm hen hnil hK hS
  generalize hVG : validG (byteL re) (byteL ke) life iss l = vg at *
  clear hVG
  have PR0 := Lib.hid (show presL hs (byteL re) = presL (hs.drop 0) (byteL re) from rfl)
  generalize hP : presL hs (byteL re) = P at *
  clear hP
  refine (callsIn_wide (n := 9)).1 ?_
  refine callsIn_of_wp_marks Tryz.func25 rfl trivial ?_
  simp only [Tryz.ntmps25, List.size_toArray, List.length_cons, List.length_nil, Nat.reduceAdd, Nat.reduceSub, Array.replicate_succ, Array.replicate_zero, List.push_toArray, List.append_toArray, List.nil_append, List.cons_append]
  refine wpIn_wide.2 ?_
  go_wp2_with (with_reducible refine wpList_loadR rfl 49 (.tmp 4) rfl R4.out rfl Tryz.underlying49 rfl (sizeG _ _ _ _ _) ?_)
  generalize (((w.alloc (.cells #[.string re, .string ke, .int .i64 life, .int .i64 iss, .slice Ea en ec] 49)).alloc (.cells #[.string ms, .string uri, .int .i64 code, .string rsn, .slice A n c, .slice B m d] 41)).alloc (.cells #[.string ⟨#[]⟩, .string ⟨#[]⟩, .int .i64 0, .int .i64 0, .slice none 0 0] 49)) = W at *
  refine (RV.out W BQ.out).mono ?_
  rintro e w1 ⟨rfl, hb1⟩
  have R4' := Lib.hid (R4.out.below hb1); have R6' := Lib.hid (R6.out.below hb1); have R8' := Lib.hid (R8.out.below hb1); have BQ' := Lib.hid (bthen BQ.out hb1)
  clear hb1 R4 R6 R8 BQ RV
  have R4 := R4'; have R6 := R6'; have R8 := R8'; have BQ := BQ'
  clear R4' R6' R8' BQ'
  have c2 : w1.cell? ⟨w.heap.size + 1, 2, none⟩ = some (.int .i64 code) := R6.out.cell 2
  cases vg with
  | false =>
    have E := Lib.hid (VB.out (by rw [BV.out]; rfl))
    go_wp2_with (with_reducible refine wpList_storeR rfl 49 (.tmp 8) (.tmp 35) rfl R8.out [.string ⟨#[]⟩, .string ⟨#[]⟩, .int .i64 0, .int .i64 0, .slice none 0 0] rfl rfl (lenG _ _ _ _ _ _ _ _ _ _) (sizeG _ _ _ _ _) (g_one _ _ _ _ _ _ _) BQ.out (by omega) ?_)
    intro w9 R9 B9 _
    go_wp2_with fail
    exact leavesM_ret (results_ctu rfl _ _ _ (w.heap.size + 1 + 1) [.string ⟨#[]⟩, .string ⟨#[]⟩, .int .i64 0, .int .i64 0, .slice none 0 0] _ rfl R9.out.range Tryz.underlying49 rfl sizeG3) rfl (by exact VerP.zero E.out B9.out)
  | true =>
  by_cases k0 : code = 0
  · have d0 : (code != 0) = false := by simp [k0]
    clear k0
    by_cases k1 : now < 0
    · have d1 : decide (now < 0) = true := by simp [k1]
      have E := Lib.hid (VB.out (by rw [BV.out, d0, d1]; rfl))
      clear k1
      go_wp2_with (with_reducible refine wpList_storeR rfl 49 (.tmp 8) (.tmp 35) rfl R8.out [.string ⟨#[]⟩, .string ⟨#[]⟩, .int .i64 0, .int .i64 0, .slice none 0 0] rfl rfl (lenG _ _ _ _ _ _ _ _ _ _) (sizeG _ _ _ _ _) (g_one _ _ _ _ _ _ _) BQ.out (by omega) ?_)
      intro w9 R9 B9 _
      go_wp2_with fail
      exact leavesM_ret (results_ctu rfl _ _ _ (w.heap.size + 1 + 1) [.string ⟨#[]⟩, .string ⟨#[]⟩, .int .i64 0, .int .i64 0, .slice none 0 0] _ rfl R9.out.range Tryz.underlying49 rfl sizeG3) rfl (by exact VerP.zero E.out B9.out)
    have d1 : decide (now < 0) = false := by simp; omega
    by_cases k2 : 1099511627776 < now
    · have d2 : decide (1099511627776 < now) = true := by simp [k2]
      have E := Lib.hid (VB.out (by rw [BV.out, d0, d1, d2]; rfl))
      clear k1 k2
      go_wp2_with (with_reducible refine wpList_storeR rfl 49 (.tmp 8) (.tmp 35) rfl R8.out [.string ⟨#[]⟩, .string ⟨#[]⟩, .int .i64 0, .int .i64 0, .slice none 0 0] rfl rfl (lenG _ _ _ _ _ _ _ _ _ _) (sizeG _ _ _ _ _) (g_one _ _ _ _ _ _ _) BQ.out (by omega) ?_)
      intro w9 R9 B9 _
      go_wp2_with fail
      exact leavesM_ret (results_ctu rfl _ _ _ (w.heap.size + 1 + 1) [.string ⟨#[]⟩, .string ⟨#[]⟩, .int .i64 0, .int .i64 0, .slice none 0 0] _ rfl R9.out.range Tryz.underlying49 rfl sizeG3) rfl (by exact VerP.zero E.out B9.out)
    have d2 : decide (1099511627776 < now) = false := by simp; omega
    have NB := Lib.hid (show badV re ke life iss code now l = false by rw [BV.out, d0, d1, d2]; rfl)
    clear BV VB
    have e0 : w1.cell? ⟨w.heap.size, 4, none⟩ = some (.slice Ea en ec) := R4.out.cell 4
    have f0 := R4.out.frozen 4
    go_wp2_with fail
    clear c2 d0 d1 d2 e0 f0
    refine (CL.out w1 BQ.out).mono ?_
    rintro e w2 ⟨v, rfl, HV⟩
    have R4' := Lib.hid (R4.out.below HV.bw); have R6' := Lib.hid (R6.out.below HV.bw); have R8' := Lib.hid (R8.out.below HV.bw); have BQ' := Lib.hid (bthen BQ.out HV.bw)
    have NEWB := Lib.hid (own_block HV.o)
    have LT1 := Lib.hid R8.out.lt
    obtain ⟨A2, c2, rfl, hc2, hA2⟩ := HV.rds
    have e0 : w2.cell? ⟨w.heap.size, 4, none⟩ = some (.slice Ea en ec) := R4'.out.cell 4
    have f0 := R4'.out.frozen 4
    have VB2 := Lib.hid (HV.base BQ.out)
    have HAv := Lib.hid hA2
    clear R4 R6 R8 BQ hA2 HV CL
    have NEW2 := Lib.hid (show ∀ b o s, A2 = some ⟨b, o, s⟩ → w.heap.size + 1 + 1 < b from fun b o s e => by
      subst e
      exact Nat.lt_of_lt_of_le LT1.out (NEWB.out b rfl))
    have ws : ∃ ws, ws = w2.setCell ⟨w.heap.size, 4, none⟩ (.slice A2 en c2) := ⟨_, rfl⟩
    obtain ⟨ws, hws⟩ := ws
    have R4 := Lib.hid (show Row ws w.heap.size 49 [.string re, .string ke, .int .i64 life, .int .i64 iss, .slice A2 en c2] by rw [hws]; exact R4'.out.set 4 _)
    have R6 := Lib.hid (show Row ws (w.heap.size + 1) 41 [.string ms, .string uri, .int .i64 code, .string rsn, .slice A n c, .slice B m d] by rw [hws]; exact R6'.out.setOther (by omega) _)
    have R8 := Lib.hid (show Row ws (w.heap.size + 1 + 1) 49 [.string ⟨#[]⟩, .string ⟨#[]⟩, .int .i64 0, .int .i64 0, .slice none 0 0] by rw [hws]; exact R8'.out.setOther (by omega) _)
    have BQ := Lib.hid (show Below w.heap.size w ws by rw [hws]; exact BQ'.out.setCell (Nat.le_refl _) _)
    have VXs := Lib.hid (show VX 76 3 w (.slice A2 en c2) en (ncs l) ws from VB2.out.other BQ.out (fun g hg => by
      rw [hws]
      exact Below.heap_setCell w2 _ _ g (by
        have h1 := NEWB.out g hg; have h2 := LT1.out
        show g ≠ w.heap.size
        omega)))
    have HAs := Lib.hid (show Rds ws ws.heap.size A2 (ncs l) from fun hn => by
      obtain ⟨b, o, e, hb, hc⟩ := HAv.out hn
      refine ⟨b, o, e, by rw [hws]; simpa [World.setCell] using hb, fun j u hu => ?_⟩
      rw [hws, World.cell?_setCell_other _ _ _ _ (by intro e2; injection e2 with e3; have := NEW2.out b o none e; omega)]
      exact hc j u hu)
    have NEW3 := Lib.hid (show 0 < en → ∃ b o, A2 = some ⟨b, o, none⟩ ∧ b < ws.heap.size from fun h => by
      obtain ⟨b, o, e, hb, _⟩ := HAs.out (by rw [ncs_len, HEN.out]; omega)
      exact ⟨b, o, e, hb⟩)
    clear R4' R6' R8' BQ' VB2 HAv
    go_upto_region 4 with fail
    rw [← hws]
    clear hws e0 f0 LT1 NEWB
    have LT := Lib.hid R8.out.lt
    have A4 := Lib.hid ((Below.refl ws.heap.size ws).alloc (Nat.le_refl _) (.cells Z9.toArray 23))
    have RZ := Lib.hid (Row.new ws 23 Z9)
    have c6 : (ws.alloc (.cells Z9.toArray 23)).cell? ⟨w.heap.size + 1, 4, none⟩ = some (.slice A n c) := (R6.out.below A4.out).cell 4
    have OFF := Lib.hid (fun (p : ByteArray × ByteArray) (hp : p ∈ hs) (X : World) (b : Below w.heap.size w X) => offered_any p.1 p.2 re X (HL.out p hp).1 (HL.out p hp).2 (HS.out.below b))
    go_wp2_with fail
    clear c6
    go_loopw [12, 43] (fun v12 v43 wr => ∃ k : Nat, k ≤ n ∧ v12 = .bool false ∧ v43 = .int .i64 k ∧ Hid (P = presL (hs.drop k) (byteL re)) ∧ Hid (Below ws.heap.size ws wr) ∧ Hid (Row wr ws.heap.size 23 Z9)) (fun _ v _ => n - (intOf v).toNat)
    case atStart => exact ⟨0, Nat.zero_le _, rfl, rfl, PR0, A4, RZ⟩
    case round =>
      obtain ⟨k, hk, rfl, rfl, HP, BR, RR⟩ := hrel
      have R4r := Lib.hid (R4.out.below BR.out); have R6r := Lib.hid (R6.out.below BR.out); have R8r := Lib.hid (R8.out.below BR.out); have BQr := Lib.hid (bthen BQ.out BR.out)
      by_cases hlt : k < n
      · have hd : decide (k < n) = true := by simp [hlt]
        have hd2 : decide ((k : Int) < (n : Int)) = true := by simp; omega
        obtain ⟨p, hp⟩ : ∃ p, hs[k]? = some p := ⟨_, List.getElem?_eq_getElem (by rw [HN.out]; exact hlt)⟩
        obtain ⟨x1, o1, rfl, hx1, hc1⟩ := HA0.out (by rw [hds_len, HN.out]; omega)
        have G1 := Lib.hid (show wr.rangeAt x1 (o1 + k * 2) [.string p.1, .string p.2] from fun j v hv => (BQr.out.cell (p := ⟨x1, _, none⟩) hx1).trans (Rds.range (B := 0) hc1 (k * 2) _ (hds_at hp) j v hv))
        have KD := Lib.hid (show presL (hs.drop k) (byteL re) = (match offL (byteL p.1) (byteL p.2) (byteL re) with | some q => some q | none => presL (hs.drop (k + 1)) (byteL re)) by
          obtain ⟨h3, h4⟩ := List.getElem?_eq_some_iff.1 hp
          rw [List.drop_eq_getElem_cons h3, h4]
          unfold presL
          rw [List.findSome?_cons]
          cases offL (byteL p.1) (byteL p.2) (byteL re) <;> rfl)
        have OF := Lib.hid (OFF.out p (List.mem_of_getElem? hp))
        rw [← HP.out] at KD
        obtain ⟨nm, vl⟩ := p
        dsimp only at G1 KD OF
        generalize offL (byteL nm) (byteL vl) (byteL re) = O at *
        clear hc1 hp HP
        have N0 := Lib.hid (Row.new wr 69 [.string ⟨#[]⟩, .string ⟨#[]⟩])
        have BA := Lib.hid ((Below.refl wr.heap.size wr).alloc (Nat.le_refl _) (.cells #[.string ⟨#[]⟩, .string ⟨#[]⟩] 69))
        go_wp2_with (first
          | (with_reducible refine wpList_load_mid rfl 69 (.tmp 45) rfl x1 (o1 + k * 2) rfl [.string nm, .string vl] _ G1.out Tryz.underlying69 rfl (sizeH _ _) ?_)
          | (with_reducible refine wpList_storeR rfl 69 (.tmp 14) (.tmp 46) rfl N0.out [.string nm, .string vl] rfl rfl (lenH _ _ _ _) (sizeH _ _) (h2_one _ _) BA.out (Nat.le_refl _) ?_))
        intro wa RA BA2 _
        have e0 : wa.cell? ⟨w.heap.size, 0, none⟩ = some (.string re) := (R4r.out.below BA2.out).cell 0
        go_wp2_with (with_reducible refine wpList_loadR rfl 69 (.tmp 14) rfl RA.out rfl Tryz.underlying69 rfl (sizeH _ _) ?_)
        clear e0
        refine (OF.out wa (bthen BQr.out BA2.out)).mono ?_
        rintro e wb ⟨rfl, hb⟩
        have BB := Lib.hid (bthen BR.out (bthen BA2.out hb))
        have RC := Lib.hid ((RR.out.below BA2.out).below hb)
        clear hb RA BA2 N0 BA G1 R4r R6r R8r BQr RR BR
        cases O with
        | none =>
          have HP2 := Lib.hid (show P = presL (hs.drop (k + 1)) (byteL re) from KD.out)
          rw [show offV none = .tuple #[.agg Z9.toArray, .bool false] from rfl]
          go_wp2_with (with_reducible refine wpList_storeR rfl 23 (.tmp 11) (.tmp 52) rfl RC.out Z9 rfl rfl (lenL9 _ _ _ _ _ _ _ _ _ _ _ _ _ _ _ _ _ _) (sizeL9 _ _ _ _ _ _ _ _ _) (p9_one _ _ _ _ _ _ _ _ _) BB.out (Nat.le_refl _) ?_)
          intro wc RC2 BC _
          go_wp2_with fail
          go_roundw
          case rel => exact ⟨k + 1, by omega, rfl, by go_num, HP2, BC, RC2⟩
          case measure => simp [intOf]; omega
        | some q =>
          have HP2 := Lib.hid (show P = some q from KD.out)
          have QOK := Lib.hid (POK.out q HP2.out)
          rw [show offV (some q) = .tuple #[.agg #[.string (strOfNums q.u), .string (strOfNums q.r), .string (strOfNums q.n), .string (strOfNums q.i), .string (strOfNums q.p), .string (strOfNums q.c), .string (strOfNums q.o), .int .i64 q.k, .bool q.g], .bool true] from rfl]
          go_wp2_with (with_reducible refine wpList_storeR rfl 23 (.tmp 11) (.tmp 52) rfl RC.out [.string (strOfNums q.u), .string (strOfNums q.r), .string (strOfNums q.n), .string (strOfNums q.i), .string (strOfNums q.p), .string (strOfNums q.c), .string (strOfNums q.o), .int .i64 q.k, .bool q.g] rfl rfl (lenL9 _ _ _ _ _ _ _ _ _ _ _ _ _ _ _ _ _ _) (sizeL9 _ _ _ _ _ _ _ _ _) (p9_one _ _ _ _ _ _ _ _ _) BB.out (Nat.le_refl _) ?_)
          intro wc RC2 BC _
          have R4' := Lib.hid (R4.out.below BC.out); have R6' := Lib.hid (R6.out.below BC.out); have R8' := Lib.hid (R8.out.below BC.out); have BQ' := Lib.hid (bthen BQ.out BC.out)
          have HAe' := Lib.hid ((HAs.out.below BC.out).up BC.out.size)
          have VXe' := Lib.hid (VXs.out.step BC.out)
          have LTc := Lib.hid R8.out.lt
          clear R4 R6 R8 BQ HAs VXs RC BB OFF OF KD PR0 RZ A4 LT BC POK VN hd hd2 hlt
          have ub : wc.cell? ⟨ws.heap.size, 0, none⟩ = some (.string (strOfNums q.u)) := RC2.out.cell 0
          have IX := Lib.hid (indexw_any U un uc ws.heap.size us (strOfNums q.u) wc ((HU.out.below BQ'.out).up BQ'.out.size) HUN.out hunN ub)
          clear ub
          generalize hKK : findK us (strOfNums q.u) = K at *
          have HKK := Lib.hid hKK
          clear hKK
          go_wp2_with fail
          refine IX.out.mono ?_
          rintro e wd ⟨rfl, hbd⟩
          have R4 := Lib.hid (R4'.out.below hbd); have R6 := Lib.hid (R6'.out.below hbd); have R8 := Lib.hid (R8'.out.below hbd); have RC := Lib.hid (RC2.out.below hbd); have BQ := Lib.hid (bthen BQ'.out hbd)
          have HAe := Lib.hid ((HAe'.out.below hbd).up hbd.size)
          have VXe := Lib.hid (VXe'.out.step hbd)
          clear hbd R4' R6' R8' RC2 BQ' HAe' VXe' IX
          have q0 := fun x : BW wd => RC.out.later x 3
          have q1 := fun x : BW wd => R6.out.later x 1
          have q2 := fun x : BW wd => R6.out.later x 0
          have q3 := fun x : BW wd => R6.out.later x 5
          have q4 := fun x : BW wd => RC.out.later x 4
          simp only [List.getElem?_cons_succ, List.getElem?_cons_zero] at q0 q1 q2 q3 q4
          cases hq1 : ((strOfNums q.i).toList == uri.toList) with
          | false =>
            have E := Lib.hid (VW.out q NB.out HP2.out (wrong_uri hq1))
            obtain ⟨ix, hix⟩ : ∃ ix, idxV K = .int .i64 ix := by
              cases K
              · exact ⟨_, rfl⟩
              · exact ⟨_, rfl⟩
            rw [hix]
            clear hix
            go_wp2_with fail
            refine region_bw (by kernel_rfl) (by kernel_rfl) ?_
            iterate 25 go_big_quiet_step (fail)
            refine wpQuiet_nil ?_
            rintro _ ⟨x, rfl⟩
            obtain ⟨wx, hx⟩ : ∃ wx, wx = x.w := ⟨_, rfl⟩
            have BX := Lib.hid (show Below wd.heap.size wd wx by rw [hx]; exact x.h)
            rw [← hx]
            clear hx x
            have R4' := Lib.hid (R4.out.below BX.out); have R6' := Lib.hid (R6.out.below BX.out); have R8' := Lib.hid (R8.out.below BX.out); have RC' := Lib.hid (RC.out.below BX.out); have BQ' := Lib.hid (bthen BQ.out BX.out); have HAe' := Lib.hid ((HAe.out.below BX.out).up BX.out.size); have VXe' := Lib.hid (VXe.out.step BX.out)
            clear R4 R6 R8 RC BQ HAe VXe
            have R4 := R4'; have R6 := R6'; have R8 := R8'; have RC := RC'; have BQ := BQ'; have HAe := HAe'; have VXe := VXe'
            clear R4' R6' R8' RC' BQ' HAe' VXe'
            clear q0 q1 q2 q3 q4 hq1
            go_wp2_with (first
              | (with_reducible refine wpList_loadR rfl 49 (.tmp 4) rfl R4.out rfl Tryz.underlying49 rfl (sizeG _ _ _ _ _) ?_)
              | (with_reducible refine wpList_storeR rfl 49 (.tmp 8) (.tmp 87) rfl R8.out [.string re, .string ke, .int .i64 life, .int .i64 iss, .slice A2 en c2] rfl rfl (lenG _ _ _ _ _ _ _ _ _ _) (sizeG _ _ _ _ _) (g_one _ _ _ _ _ _ _) BQ.out (by omega) ?_))
            intro w9 R9 B9 H9
            go_wp2_with fail
            exact leavesM_ret (results_ctu rfl _ _ _ (w.heap.size + 1 + 1) [.string re, .string ke, .int .i64 life, .int .i64 iss, .slice A2 en c2] _ rfl R9.out.range Tryz.underlying49 rfl (sizeG _ _ _ _ _)) rfl (by exact VerP.of E.out B9.out HEN.out (HAe.out.heapR (fun b o s e => by have := NEW2.out b o s e; omega) H9.out.1 H9.out.2))
          | true =>
            cases K with
            | none =>
              have E := Lib.hid (VW.out q NB.out HP2.out (wrong_user HKK.out))
              rw [show idxV none = .int .i64 (-1) from rfl]
              go_wp2_with fail
              refine region_bw (by kernel_rfl) (by kernel_rfl) ?_
              iterate 25 go_big_quiet_step (fail)
              refine wpQuiet_nil ?_
              rintro _ ⟨x, rfl⟩
              obtain ⟨wx, hx⟩ : ∃ wx, wx = x.w := ⟨_, rfl⟩
              have BX := Lib.hid (show Below wd.heap.size wd wx by rw [hx]; exact x.h)
              rw [← hx]
              clear hx x
              have R4' := Lib.hid (R4.out.below BX.out); have R6' := Lib.hid (R6.out.below BX.out); have R8' := Lib.hid (R8.out.below BX.out); have RC' := Lib.hid (RC.out.below BX.out); have BQ' := Lib.hid (bthen BQ.out BX.out); have HAe' := Lib.hid ((HAe.out.below BX.out).up BX.out.size); have VXe' := Lib.hid (VXe.out.step BX.out)
              clear R4 R6 R8 RC BQ HAe VXe
              have R4 := R4'; have R6 := R6'; have R8 := R8'; have RC := RC'; have BQ := BQ'; have HAe := HAe'; have VXe := VXe'
              clear R4' R6' R8' RC' BQ' HAe' VXe'
              clear q0 q1 q2 q3 q4 hq1
              go_wp2_with (first
                | (with_reducible refine wpList_loadR rfl 49 (.tmp 4) rfl R4.out rfl Tryz.underlying49 rfl (sizeG _ _ _ _ _) ?_)
                | (with_reducible refine wpList_storeR rfl 49 (.tmp 8) (.tmp 87) rfl R8.out [.string re, .string ke, .int .i64 life, .int .i64 iss, .slice A2 en c2] rfl rfl (lenG _ _ _ _ _ _ _ _ _ _) (sizeG _ _ _ _ _) (g_one _ _ _ _ _ _ _) BQ.out (by omega) ?_))
              intro w9 R9 B9 H9
              go_wp2_with fail
              exact leavesM_ret (results_ctu rfl _ _ _ (w.heap.size + 1 + 1) [.string re, .string ke, .int .i64 life, .int .i64 iss, .slice A2 en c2] _ rfl R9.out.range Tryz.underlying49 rfl (sizeG _ _ _ _ _)) rfl (by exact VerP.of E.out B9.out HEN.out (HAe.out.heapR (fun b o s e => by have := NEW2.out b o s e; omega) H9.out.1 H9.out.2))
            | some k2 =>
              have hk2 := findK_lt HKK.out
              obtain ⟨p2, hp2⟩ : ∃ p2, us[k2]? = some p2 := ⟨_, List.getElem?_eq_getElem hk2⟩
              rw [HUN.out] at hk2
              obtain ⟨x2, o2, rfl, hx2, hcu⟩ := HU.out (by rw [hds_len, HUN.out]; omega)
              have q5 := fun x : BW wd => show x.w.cell? ⟨x2, o2 + k2 * 2 + 1, none⟩ = some (.string p2.2) from ((bthen BQ.out x.h).cell (p := ⟨x2, _, none⟩) hx2).trans (Rds.range (B := 0) hcu (k2 * 2) _ (hds_at hp2) 1 _ rfl)
              have HSs := Lib.hid (HUS.out p2 (List.mem_of_getElem? hp2))
              have WR := Lib.hid (wrong_resp (ms := ms) (bs := bs) hq1 HKK.out)
              rw [show (us.getD k2 (⟨#[]⟩, ⟨#[]⟩)).2 = p2.2 by rw [List.getD_eq_getElem?_getD, hp2]; rfl] at WR
              clear hp2 hcu
              generalize p2.2 = ss at *
              have i0 : (0 : Int) ≤ (k2 : Int) := by omega
              have i1 : (k2 : Int) < (un : Int) := by omega
              have j0 : decide ((k2 : Int) < 0) = false := by simp [show ¬ ((k2 : Int) < 0) by omega]
              have RR := Lib.hid (fun (X : World) (b : Below w.heap.size w X) => response_any ss ms (strOfNums q.u) (strOfNums q.r) (strOfNums q.n) (strOfNums q.i) (strOfNums q.p) (strOfNums q.c) (strOfNums q.o) q.k (q.k % 4294967296) q.g B m d bs X HBY.out HM.out ((hB.below b).up b.size) rfl (by rw [num_size, num_size]; have := HSs.out; have := QOK.out.n.2; have := QOK.out.c.2; omega) (by rw [num_size]; have := QOK.out.i.2; omega) hM (HK.out.below b))
              rw [show respL (byteL ss) (byteL (strOfNums q.n)) (q.k % 4294967296) (byteL (strOfNums q.c)) q.g (byteL (strOfNums q.i)) (byteL ms) bs = respV ms bs ss q from rfl] at RR
              generalize respV ms bs ss q = rp at *
              have RQ := Lib.hid (fun (x : BW wd) => RR.out x.w (bthen BQ.out x.h))
              rw [show idxV (some k2) = .int .i64 (k2 : Int) from rfl]
              go_wp2_with fail
              cases hq2 : ((strOfNums rp).toList == (strOfNums q.p).toList) with
              | false =>
                have E := Lib.hid (VW.out q NB.out HP2.out (by rw [WR.out, hq2]; rfl))
                refine region_bw (by kernel_rfl) (by kernel_rfl) ?_
                iterate 15 go_big_quiet_step (fail)
                go_big_quiet_want
                refine quiet_load 23 (.tmp 11) rfl ws.heap.size rfl _ 23 _ RC.out Tryz.underlying23 rfl (sizeL9 _ _ _ _ _ _ _ _ _) ?_
                simp only [Act.put, List.setIfInBounds_toArray, List.set_cons_zero, List.set_cons_succ]
                go_big_quiet_on
                iterate 4 go_big_quiet_step (fail)
                go_big_quiet_step (exact calls_bw (RQ.out _))
                iterate 4 go_big_quiet_step (fail)
                refine wpQuiet_nil ?_
                rintro _ ⟨x, rfl⟩
                obtain ⟨wx, hx⟩ : ∃ wx, wx = x.w := ⟨_, rfl⟩
                have BX := Lib.hid (show Below wd.heap.size wd wx by rw [hx]; exact x.h)
                rw [← hx]
                clear hx x
                have R4' := Lib.hid (R4.out.below BX.out); have R6' := Lib.hid (R6.out.below BX.out); have R8' := Lib.hid (R8.out.below BX.out); have RC' := Lib.hid (RC.out.below BX.out); have BQ' := Lib.hid (bthen BQ.out BX.out); have HAe' := Lib.hid ((HAe.out.below BX.out).up BX.out.size); have VXe' := Lib.hid (VXe.out.step BX.out)
                clear R4 R6 R8 RC BQ HAe VXe
                have R4 := R4'; have R6 := R6'; have R8 := R8'; have RC := RC'; have BQ := BQ'; have HAe := HAe'; have VXe := VXe'
                clear R4' R6' R8' RC' BQ' HAe' VXe'
                clear q0 q1 q2 q3 q4 q5 hq1 hq2
                go_wp2_with (first
                  | (with_reducible refine wpList_loadR rfl 49 (.tmp 4) rfl R4.out rfl Tryz.underlying49 rfl (sizeG _ _ _ _ _) ?_)
                  | (with_reducible refine wpList_storeR rfl 49 (.tmp 8) (.tmp 87) rfl R8.out [.string re, .string ke, .int .i64 life, .int .i64 iss, .slice A2 en c2] rfl rfl (lenG _ _ _ _ _ _ _ _ _ _) (sizeG _ _ _ _ _) (g_one _ _ _ _ _ _ _) BQ.out (by omega) ?_))
                intro w9 R9 B9 H9
                go_wp2_with fail
                exact leavesM_ret (results_ctu rfl _ _ _ (w.heap.size + 1 + 1) [.string re, .string ke, .int .i64 life, .int .i64 iss, .slice A2 en c2] _ rfl R9.out.range Tryz.underlying49 rfl (sizeG _ _ _ _ _)) rfl (by exact VerP.of E.out B9.out HEN.out (HAe.out.heapR (fun b o s e => by have := NEW2.out b o s e; omega) H9.out.1 H9.out.2))
              | true =>
                have WF := Lib.hid (show wrongV us uri ms bs q = false by rw [WR.out, hq2]; rfl)
                have FX := Lib.hid (fun (k : Int) l2 h4 hk => VK.out q k l2 NB.out HP2.out WF.out h4 hk)
                have FY := Lib.hid (fun l2 h4 => VY.out q l2 NB.out HP2.out WF.out h4)
                refine region_bw (by kernel_rfl) (by kernel_rfl) ?_
                iterate 15 go_big_quiet_step (fail)
                go_big_quiet_want
                refine quiet_load 23 (.tmp 11) rfl ws.heap.size rfl _ 23 _ RC.out Tryz.underlying23 rfl (sizeL9 _ _ _ _ _ _ _ _ _) ?_
                simp only [Act.put, List.setIfInBounds_toArray, List.set_cons_zero, List.set_cons_succ]
                go_big_quiet_on
                iterate 4 go_big_quiet_step (fail)
                go_big_quiet_step (exact calls_bw (RQ.out _))
                iterate 4 go_big_quiet_step (fail)
                refine wpQuiet_nil ?_
                rintro _ ⟨x, rfl⟩
                obtain ⟨wx, hx⟩ : ∃ wx, wx = x.w := ⟨_, rfl⟩
                have BX := Lib.hid (show Below wd.heap.size wd wx by rw [hx]; exact x.h)
                rw [← hx]
                clear hx x
                have R4' := Lib.hid (R4.out.below BX.out); have R6' := Lib.hid (R6.out.below BX.out); have R8' := Lib.hid (R8.out.below BX.out); have RC' := Lib.hid (RC.out.below BX.out); have BQ' := Lib.hid (bthen BQ.out BX.out); have HAe' := Lib.hid ((HAe.out.below BX.out).up BX.out.size); have VXe' := Lib.hid (VXe.out.step BX.out)
                clear R4 R6 R8 RC BQ HAe VXe
                have R4 := R4'; have R6 := R6'; have R8 := R8'; have RC := RC'; have BQ := BQ'; have HAe := HAe'; have VXe := VXe'
                clear R4' R6' R8' RC' BQ' HAe' VXe'
                clear q0 q1 q2 q3 q4 q5 hq1 hq2 RR RQ WR VW VK VY HKK i0 i1 j0 BX
                have BOK := Lib.hid (badV_ok NB.out)
                have e4 : wx.cell? ⟨w.heap.size, 4, none⟩ = some (.slice A2 en c2) := R4.out.cell 4
                have e4b : (wx.alloc (.cells #[.int .i64 (-1)] 3)).cell? ⟨w.heap.size, 4, none⟩ = some (.slice A2 en c2) := (R4.out.alloc _).cell 4
                go_wp2_with fail
                refine (backward_in A2 en c2 _).mono ?_
                rintro e w' ⟨rfl, rfl⟩
                go_wp2_with fail
                have cnn : wx.cell? ⟨ws.heap.size, 2, none⟩ = some (.string (strOfNums q.n)) := RC.out.cell 2
                clear e4 e4b
                refine range25 _ _ _ _ _ _ _ _ _ _ _ _ _ _ _ _ _ _ _ _ _ _ _ _ _ _ _ _ _ _ _ _ _ _ _ _ _ _ _ _ _ _ _ _ _ _ _ _ _ _ _ _ _ _ _ _ _ _ _ _ _ _ _ _ _ _ _ _ _ _ _ _ _ _ _ _ _ _ _ _ _ _ _ _ _ _ _ _ _ _ _ _ _ _ _ _ _ _ _ _ _ _ _ _ _ _ _ _ _ _ _ _ _ _ _ _ _ _ _ _ _ _ _ _ _ _ _ _ _ _ _ _ ws.heap.size A2 en c2 l (strOfNums q.n) wx _ HEN.out henN HAe.out RC.out.lt cnn (fun D X hD hB hR hX => (fun h => ⟨h, h⟩) ?_)
                have BX := Lib.hid hB; have R16 := Lib.hid hR; have HX := Lib.hid hX
                have NE := Lib.hid (show D ≠ w.heap.size + 1 + 1 by have := R8.out.lt; omega)
                have WD := Lib.hid (show w.heap.size ≤ D by have := BQ.out.size; omega)
                have HD := Lib.hid hD
                clear hB hR hX cnn hD
                obtain ⟨fb, hfb⟩ : ∃ fb, findB l (strOfNums q.n) = fb := ⟨_, rfl⟩
                rw [hfb] at R16
                have F := Lib.hid hfb
                clear hfb
                cases fb with
                | none =>
                  have E := Lib.hid (FX.out 13 l (nonce_none F.out) (by decide))
                  rw [show idxV none = .int .i64 (-1) from rfl] at R16
                  have R4' := Lib.hid (R4.out.below BX.out); have R6' := Lib.hid (R6.out.below BX.out); have R8' := Lib.hid (R8.out.below BX.out); have RC' := Lib.hid (RC.out.below BX.out); have BQ' := Lib.hid (bthen BQ.out BX.out); have HAe' := Lib.hid ((HAe.out.below BX.out).up BX.out.size)
                  clear R4 R6 R8 RC BQ HAe VXe BX
                  have R4 := R4'; have R6 := R6'; have R8 := R8'; have RC := RC'; have BQ := BQ'; have HAe := HAe'
                  clear R4' R6' R8' RC' BQ' HAe'
                  have q0 := fun x : BW X => R16.out.later x 0
                  simp only [List.getElem?_cons_zero] at q0
                  go_wp2_with fail
                  refine region_bw (by kernel_rfl) (by kernel_rfl) ?_
                  iterate 15 go_big_quiet_step (fail)
                  refine wpQuiet_nil ?_
                  rintro _ ⟨x, rfl⟩
                  obtain ⟨wy, hx⟩ : ∃ wy, wy = x.w := ⟨_, rfl⟩
                  have BX := Lib.hid (show Below X.heap.size X wy by rw [hx]; exact x.h)
                  rw [← hx]
                  clear hx x
                  have R4' := Lib.hid (R4.out.below BX.out); have R6' := Lib.hid (R6.out.below BX.out); have R8' := Lib.hid (R8.out.below BX.out); have RC' := Lib.hid (RC.out.below BX.out); have R16' := Lib.hid (R16.out.below BX.out); have BQ' := Lib.hid (bthen BQ.out BX.out); have HX' := Lib.hid (heapD HX.out BX.out); have HAe' := Lib.hid ((HAe.out.below BX.out).up BX.out.size)
                  clear R4 R6 R8 RC R16 BQ HX HAe
                  have R4 := R4'; have R6 := R6'; have R8 := R8'; have RC := RC'; have R16 := R16'; have BQ := BQ'; have HX := HX'; have HAe := HAe'
                  clear R4' R6' R8' RC' R16' BQ' HX' HAe'
                  clear q0 BX
                  go_wp2_with (first
                    | (with_reducible refine wpList_loadR rfl 49 (.tmp 4) rfl R4.out rfl Tryz.underlying49 rfl (sizeG _ _ _ _ _) ?_)
                    | (with_reducible refine wpList_storeR rfl 49 (.tmp 8) (.tmp 114) rfl R8.out [.string re, .string ke, .int .i64 life, .int .i64 iss, .slice A2 en c2] rfl rfl (lenG _ _ _ _ _ _ _ _ _ _) (sizeG _ _ _ _ _) (g_one _ _ _ _ _ _ _) BQ.out (by omega) ?_))
                  intro w9 R9 B9 H9
                  have HX9 := Lib.hid ((H9.out.2 _ NE.out).trans HX.out)
                  go_wp2_with fail
                  exact leavesM_ret1 rfl HX9.out (results_ctu rfl _ _ _ (w.heap.size + 1 + 1) [.string re, .string ke, .int .i64 life, .int .i64 iss, .slice A2 en c2] _ rfl (R9.out.put HX9.out).range Tryz.underlying49 rfl (sizeG _ _ _ _ _)) (by exact VerP.of E.out (belowK_t B9.out (belowK_b (Nat.le_refl _) w9 _ _ _ WD.out HX9.out rfl rfl)) HEN.out ((HAe.out.heapR (fun b o s e => by have := NEW2.out b o s e; omega) H9.out.1 H9.out.2).put HX9.out))
                | some i =>
                  rw [show idxV (some i) = .int .i64 (i : Int) from rfl] at R16
                  have hi := findBk_lt _ F.out
                  rw [HEN.out] at hi
                  obtain ⟨gb, rfl, _, hgx, _, _⟩ := VXe.out.room (by omega)
                  have VXX := Lib.hid (VXe.out.step BX.out)
                  obtain ⟨g9, e9, _, _, hfz, hcg⟩ := VXX.out.room (by omega)
                  obtain rfl : gb = g9 := by injection e9 with e9; injection e9 with e9
                  have GS := Lib.hid (show gb < ws.heap.size by
                    obtain ⟨b, o, e, hb⟩ := NEW3.out (by omega)
                    injection e with e; injection e with e
                    omega)
                  have GW := Lib.hid (show w.heap.size + 1 + 1 < gb from NEW2.out gb 0 none rfl)
                  have GX := Lib.hid hgx
                  obtain ⟨p, hp⟩ : ∃ p, l[i]? = some p := ⟨_, List.getElem?_eq_getElem (by rw [HEN.out]; exact hi)⟩
                  have HPj := Lib.hid hp
                  have NC := Lib.hid (fun (Y : World) (b : Below X.heap.size X Y) (k : Nat) (u : Value) (h : [.string p.v, .int .i64 p.a, .int .i64 p.k][k]? = some u) => show Y.cell? ⟨gb, i * 3 + k, none⟩ = some u from (b.cell (p := ⟨gb, _, none⟩) (by have := BX.out.size; show gb < _; omega)).trans (hcg _ _ (ncs_at hp k u h)))
                  have FRZ := Lib.hid (fun (Y : World) (b : Below X.heap.size X Y) => show Y.frozen? ⟨gb, i * 3 + 2, none⟩ = false from (b.frozen (p := ⟨gb, _, none⟩) (by have := BX.out.size; show gb < _; omega)).trans (hfz _))
                  have HCG := Lib.hid hcg
                  obtain ⟨pa0, pa1⟩ := BOK.out p (List.mem_of_getElem? hp)
                  have R4' := Lib.hid (R4.out.below BX.out); have R6' := Lib.hid (R6.out.below BX.out); have R8' := Lib.hid (R8.out.below BX.out); have RC' := Lib.hid (RC.out.below BX.out); have BQ' := Lib.hid (bthen BQ.out BX.out); have HAe' := Lib.hid ((HAe.out.below BX.out).up BX.out.size)
                  clear R4 R6 R8 RC BQ HAe VXe VXX BX e9 hfz hcg hp hgx
                  have R4 := R4'; have R6 := R6'; have R8 := R8'; have RC := RC'; have BQ := BQ'; have HAe := HAe'
                  clear R4' R6' R8' RC' BQ' HAe'
                  have i0 : (0 : Int) ≤ (i : Int) := by omega
                  have i1 : (i : Int) < (en : Int) := by omega
                  have j0 : decide ((i : Int) < 0) = false := by simp [show ¬ ((i : Int) < 0) by omega]
                  have j1 : decide ((0 : Int) ≤ (i : Int)) = true := by simp
                  have hw : IntKind.i64.wrap (now - p.a) = now - p.a := IntWalk.i64_in _ (by omega)
                  have q0 := fun x : BW X => R16.out.later x 0
                  have q1 := fun x : BW X => R4.out.later x 4
                  have q2 := fun x : BW X => R4.out.later x 2
                  have q3 := fun x : BW X => NC.out x.w x.h 1 _ rfl
                  simp only [List.getElem?_cons_succ, List.getElem?_cons_zero] at q0 q1 q2 q3
                  have B0X := Lib.hid (Below.refl X.heap.size X)
                  go_wp2_with fail
                  by_cases hq3 : life < now - p.a
                  · have E := Lib.hid (FX.out 13 l (nonce_old F.out HPj.out hq3) (by decide))
                    have d : decide (life < now - p.a) = true := by simp [hq3]
                    clear hq3
                    refine region_bw (by kernel_rfl) (by kernel_rfl) ?_
                    iterate 15 go_big_quiet_step (fail)
                    refine wpQuiet_nil ?_
                    rintro _ ⟨x, rfl⟩
                    obtain ⟨wy, hx⟩ : ∃ wy, wy = x.w := ⟨_, rfl⟩
                    have BX := Lib.hid (show Below X.heap.size X wy by rw [hx]; exact x.h)
                    rw [← hx]
                    clear hx x
                    have R4' := Lib.hid (R4.out.below BX.out); have R6' := Lib.hid (R6.out.below BX.out); have R8' := Lib.hid (R8.out.below BX.out); have RC' := Lib.hid (RC.out.below BX.out); have R16' := Lib.hid (R16.out.below BX.out); have BQ' := Lib.hid (bthen BQ.out BX.out); have HX' := Lib.hid (heapD HX.out BX.out); have HAe' := Lib.hid ((HAe.out.below BX.out).up BX.out.size)
                    clear R4 R6 R8 RC R16 BQ HX HAe
                    have R4 := R4'; have R6 := R6'; have R8 := R8'; have RC := RC'; have R16 := R16'; have BQ := BQ'; have HX := HX'; have HAe := HAe'
                    clear R4' R6' R8' RC' R16' BQ' HX' HAe'
                    clear q0 q1 q2 q3 hw d BX
                    go_wp2_with (first
                      | (with_reducible refine wpList_loadR rfl 49 (.tmp 4) rfl R4.out rfl Tryz.underlying49 rfl (sizeG _ _ _ _ _) ?_)
                      | (with_reducible refine wpList_storeR rfl 49 (.tmp 8) (.tmp 114) rfl R8.out [.string re, .string ke, .int .i64 life, .int .i64 iss, .slice (some ⟨gb, 0, none⟩) en c2] rfl rfl (lenG _ _ _ _ _ _ _ _ _ _) (sizeG _ _ _ _ _) (g_one _ _ _ _ _ _ _) BQ.out (by omega) ?_))
                    intro w9 R9 B9 H9
                    have HX9 := Lib.hid ((H9.out.2 _ NE.out).trans HX.out)
                    go_wp2_with fail
                    exact leavesM_ret1 rfl HX9.out (results_ctu rfl _ _ _ (w.heap.size + 1 + 1) [.string re, .string ke, .int .i64 life, .int .i64 iss, .slice (some ⟨gb, 0, none⟩) en c2] _ rfl (R9.out.put HX9.out).range Tryz.underlying49 rfl (sizeG _ _ _ _ _)) (by exact VerP.of E.out (belowK_t B9.out (belowK_b (Nat.le_refl _) w9 _ _ _ WD.out HX9.out rfl rfl)) HEN.out ((HAe.out.heapR (fun b o s e => by have := NEW2.out b o s e; omega) H9.out.1 H9.out.2).put HX9.out))
                  · have d : decide (life < now - p.a) = false := by simp only [decide_eq_false_iff_not]; exact hq3
                    have H3 := Lib.hid hq3
                    clear hq3
                    refine region_bw (by kernel_rfl) (by kernel_rfl) ?_
                    iterate 15 go_big_quiet_step (fail)
                    refine wpQuiet_nil ?_
                    rintro _ ⟨x, rfl⟩
                    obtain ⟨wy, hx⟩ : ∃ wy, wy = x.w := ⟨_, rfl⟩
                    have BX := Lib.hid (show Below X.heap.size X wy by rw [hx]; exact x.h)
                    rw [← hx]
                    have B0Y := Lib.hid (belowK_t B0X.out BX.out)
                    clear hx x B0X
                    have R4' := Lib.hid (R4.out.below BX.out); have R6' := Lib.hid (R6.out.below BX.out); have R8' := Lib.hid (R8.out.below BX.out); have RC' := Lib.hid (RC.out.below BX.out); have R16' := Lib.hid (R16.out.below BX.out); have BQ' := Lib.hid (bthen BQ.out BX.out); have HX' := Lib.hid (heapD HX.out BX.out); have HAe' := Lib.hid ((HAe.out.below BX.out).up BX.out.size)
                    clear R4 R6 R8 RC R16 BQ HX HAe
                    have R4 := R4'; have R6 := R6'; have R8 := R8'; have RC := RC'; have R16 := R16'; have BQ := BQ'; have HX := HX'; have HAe := HAe'
                    clear R4' R6' R8' RC' R16' BQ' HX' HAe'
                    clear q0 q1 q2 q3 hw d BX
                    go_wp2_with fail
                    have q0 := fun x : BW wy => R16.out.later x 0
                    have q1 := fun x : BW wy => R4.out.later x 4
                    have q2 := fun x : BW wy => RC.out.later x 7
                    have q3 := fun x : BW wy => NC.out x.w (belowK_t B0Y.out (x.h.mono B0Y.out.size)) 2 _ rfl
                    simp only [List.getElem?_cons_succ, List.getElem?_cons_zero] at q0 q1 q2 q3
                    by_cases hq4 : q.k ≤ p.k
                    · have E := Lib.hid (FX.out 7 l (nonce_used F.out HPj.out (by have := H3.out; omega) hq4) (by decide))
                      have d : decide (q.k ≤ p.k) = true := by simp [hq4]
                      clear hq4
                      refine region_bw (by kernel_rfl) (by kernel_rfl) ?_
                      iterate 9 go_big_quiet_step (fail)
                      refine wpQuiet_nil ?_
                      rintro _ ⟨x, rfl⟩
                      obtain ⟨wz, hx⟩ : ∃ wz, wz = x.w := ⟨_, rfl⟩
                      have BX := Lib.hid (show Below wy.heap.size wy wz by rw [hx]; exact x.h)
                      rw [← hx]
                      clear hx x
                      have R4' := Lib.hid (R4.out.below BX.out); have R6' := Lib.hid (R6.out.below BX.out); have R8' := Lib.hid (R8.out.below BX.out); have RC' := Lib.hid (RC.out.below BX.out); have R16' := Lib.hid (R16.out.below BX.out); have BQ' := Lib.hid (bthen BQ.out BX.out); have HX' := Lib.hid (heapD HX.out BX.out); have HAe' := Lib.hid ((HAe.out.below BX.out).up BX.out.size)
                      clear R4 R6 R8 RC R16 BQ HX HAe
                      have R4 := R4'; have R6 := R6'; have R8 := R8'; have RC := RC'; have R16 := R16'; have BQ := BQ'; have HX := HX'; have HAe := HAe'
                      clear R4' R6' R8' RC' R16' BQ' HX' HAe'
                      clear q0 q1 q2 q3 d BX
                      go_wp2_with (first
                        | (with_reducible refine wpList_loadR rfl 49 (.tmp 4) rfl R4.out rfl Tryz.underlying49 rfl (sizeG _ _ _ _ _) ?_)
                        | (with_reducible refine wpList_storeR rfl 49 (.tmp 8) (.tmp 124) rfl R8.out [.string re, .string ke, .int .i64 life, .int .i64 iss, .slice (some ⟨gb, 0, none⟩) en c2] rfl rfl (lenG _ _ _ _ _ _ _ _ _ _) (sizeG _ _ _ _ _) (g_one _ _ _ _ _ _ _) BQ.out (by omega) ?_))
                      intro w9 R9 B9 H9
                      have HX9 := Lib.hid ((H9.out.2 _ NE.out).trans HX.out)
                      go_wp2_with fail
                      exact leavesM_ret1 rfl HX9.out (results_ctu rfl _ _ _ (w.heap.size + 1 + 1) [.string re, .string ke, .int .i64 life, .int .i64 iss, .slice (some ⟨gb, 0, none⟩) en c2] _ rfl (R9.out.put HX9.out).range Tryz.underlying49 rfl (sizeG _ _ _ _ _)) (by exact VerP.of E.out (belowK_t B9.out (belowK_b (Nat.le_refl _) w9 _ _ _ WD.out HX9.out rfl rfl)) HEN.out ((HAe.out.heapR (fun b o s e => by have := NEW2.out b o s e; omega) H9.out.1 H9.out.2).put HX9.out))
                    · have E := Lib.hid (FY.out _ (nonce_new F.out HPj.out (by have := H3.out; omega) (by omega)))
                      have d : decide (q.k ≤ p.k) = false := by simp only [decide_eq_false_iff_not]; exact hq4
                      clear hq4
                      refine region_bw (by kernel_rfl) (by kernel_rfl) ?_
                      iterate 9 go_big_quiet_step (fail)
                      refine wpQuiet_nil ?_
                      rintro _ ⟨x, rfl⟩
                      obtain ⟨wz, hx⟩ : ∃ wz, wz = x.w := ⟨_, rfl⟩
                      have BX := Lib.hid (show Below wy.heap.size wy wz by rw [hx]; exact x.h)
                      rw [← hx]
                      have B0Z := Lib.hid (belowK_t B0Y.out (BX.out.mono B0Y.out.size))
                      clear hx x B0Y
                      have R4' := Lib.hid (R4.out.below BX.out); have R6' := Lib.hid (R6.out.below BX.out); have R8' := Lib.hid (R8.out.below BX.out); have RC' := Lib.hid (RC.out.below BX.out); have R16' := Lib.hid (R16.out.below BX.out); have BQ' := Lib.hid (bthen BQ.out BX.out); have HX' := Lib.hid (heapD HX.out BX.out); have HAe' := Lib.hid ((HAe.out.below BX.out).up BX.out.size)
                      clear R4 R6 R8 RC R16 BQ HX HAe
                      have R4 := R4'; have R6 := R6'; have R8 := R8'; have RC := RC'; have R16 := R16'; have BQ := BQ'; have HX := HX'; have HAe := HAe'
                      clear R4' R6' R8' RC' R16' BQ' HX' HAe'
                      clear q0 q1 q2 q3 d BX
                      have e4 : wz.cell? ⟨w.heap.size, 4, none⟩ = some (.slice (some ⟨gb, 0, none⟩) en c2) := R4.out.cell 4
                      have e16 : wz.cell? ⟨wx.heap.size, 0, none⟩ = some (.int .i64 (i : Int)) := R16.out.cell 0
                      have e7 : wz.cell? ⟨ws.heap.size, 7, none⟩ = some (.int .i64 q.k) := RC.out.cell 7
                      have CK : wz.cell? ⟨gb, i * 3 + 2, none⟩ = some (.int .i64 p.k) := NC.out wz B0Z.out 2 _ rfl
                      have FZ : wz.frozen? ⟨gb, i * 3 + 2, none⟩ = false := FRZ.out wz B0Z.out
                      have CG := Lib.hid (show ∀ k u, (ncs l)[k]? = some u → wz.cell? ⟨gb, k, none⟩ = some u from fun k u hu => (B0Z.out.cell (p := ⟨gb, k, none⟩) (World.block_lt_of_cell? _ _ (HCG.out k u hu))).trans (HCG.out k u hu))
                      have T4 := Lib.hid (show Row (wz.setCell ⟨gb, i * 3 + 2, none⟩ (.int .i64 q.k)) w.heap.size 49 [.string re, .string ke, .int .i64 life, .int .i64 iss, .slice (some ⟨gb, 0, none⟩) en c2] from R4.out.setOther (by have := GW.out; omega) _)
                      have T8 := Lib.hid (show Row (wz.setCell ⟨gb, i * 3 + 2, none⟩ (.int .i64 q.k)) (w.heap.size + 1 + 1) 49 [.string ⟨#[]⟩, .string ⟨#[]⟩, .int .i64 0, .int .i64 0, .slice none 0 0] from R8.out.setOther (by have := GW.out; omega) _)
                      have TC := Lib.hid (show Row (wz.setCell ⟨gb, i * 3 + 2, none⟩ (.int .i64 q.k)) ws.heap.size 23 [.string (strOfNums q.u), .string (strOfNums q.r), .string (strOfNums q.n), .string (strOfNums q.i), .string (strOfNums q.p), .string (strOfNums q.c), .string (strOfNums q.o), .int .i64 q.k, .bool q.g] from RC.out.setOther (by have := GS.out; omega) _)
                      have TB := Lib.hid (show Below w.heap.size w (wz.setCell ⟨gb, i * 3 + 2, none⟩ (.int .i64 q.k)) from BQ.out.setCell (by have := GW.out; dsimp only; omega) _)
                      have CG2 := Lib.hid (show ∀ k u, (ncs (l.set i ⟨p.v, p.a, q.k⟩))[k]? = some u → (wz.setCell ⟨gb, i * 3 + 2, none⟩ (.int .i64 q.k)).cell? ⟨gb, k, none⟩ = some u from ncs_stored HPj.out CG.out)
                      have TX := Lib.hid (show (wz.setCell ⟨gb, i * 3 + 2, none⟩ (.int .i64 q.k)).heap[D]? = some (.deferred (some [])) from (Below.heap_setCell wz _ _ D (by have := HD.out; have := GX.out; show D ≠ gb; omega)).trans HX.out)
                      clear R4 R6 R8 RC R16 BQ HAe CG B0Z NC FRZ HCG HX
                      go_wp2_with fail
                      clear e4 e16 e7 CK FZ
                      generalize (wz.setCell ⟨gb, i * 3 + 2, none⟩ (.int .i64 q.k)) = wv at *
                      obtain ⟨k0, k1', k2', k3, k4⟩ := T4.out.five
                      obtain ⟨z0, z1, z2, z3, z4⟩ := T8.out.five
                      have c0 : wv.cell? ⟨ws.heap.size, 0, none⟩ = some (.string (strOfNums q.u)) := TC.out.cell 0
                      have f0 := T8.out.frozen 0; have f1 := T8.out.frozen 1; have f2 := T8.out.frozen 2; have f3 := T8.out.frozen 3; have f4 := T8.out.frozen 4
                      have kk : ∀ (X : World) (o : Nat) (u : Value), (X.setCell ⟨w.heap.size + 1 + 1, o, none⟩ u).cell? ⟨ws.heap.size, 0, none⟩ = X.cell? ⟨ws.heap.size, 0, none⟩ := fun X o u => World.cell?_setCell_other _ _ _ _ (by intro e; injection e with e1; have := GS.out; have := GW.out; omega)
                      have rs := (T8.out.setAll [.string re, .string ke, .int .i64 life, .int .i64 iss, .slice (some ⟨gb, 0, none⟩) en c2] rfl).drew
                      have bs2 := (below_setCells (by omega : w.heap.size ≤ (w.heap.size + 1 + 1)) [.string re, .string ke, .int .i64 life, .int .i64 iss, .slice (some ⟨gb, 0, none⟩) en c2] 0 _ TB.out).drew
                      have rd : ∀ k u, (ncs (l.set i ⟨p.v, p.a, q.k⟩))[k]? = some u → (wv.setCells (w.heap.size + 1 + 1) 0 [.string re, .string ke, .int .i64 life, .int .i64 iss, .slice (some ⟨gb, 0, none⟩) en c2]).drew.cell? ⟨gb, 0 + k, none⟩ = some u := fun k u hu => by
                        show (wv.setCells (w.heap.size + 1 + 1) 0 [.string re, .string ke, .int .i64 life, .int .i64 iss, .slice (some ⟨gb, 0, none⟩) en c2]).cell? ⟨gb, 0 + k, none⟩ = some u
                        rw [World.cell?_of_block (w := wv) (a := ⟨gb, 0 + k, none⟩) (heap_setCells [.string re, .string ke, .int .i64 life, .int .i64 iss, .slice (some ⟨gb, 0, none⟩) en c2] 0 wv gb (by have := GW.out; omega)), Nat.zero_add]
                        exact CG2.out k u hu
                      have xd : (wv.setCells (w.heap.size + 1 + 1) 0 [.string re, .string ke, .int .i64 life, .int .i64 iss, .slice (some ⟨gb, 0, none⟩) en c2]).drew.heap[D]? = some (.deferred (some [])) := (heap_setCells [.string re, .string ke, .int .i64 life, .int .i64 iss, .slice (some ⟨gb, 0, none⟩) en c2] 0 wv D NE.out).trans TX.out
                      simp only [World.setCells, Nat.zero_add, Nat.reduceAdd] at rs bs2 rd xd
                      have RS := Lib.hid rs; have BS := Lib.hid bs2; have RD := Lib.hid rd; have XD := Lib.hid xd
                      clear rs bs2 rd xd CG2 T4 T8 TC TB TX
                      go_region
                      all_goals clear kk
                      all_goals
                        go_wp2_with fail
                        refine leavesM_ret1 rfl XD.out (results_ctu rfl _ _ _ (w.heap.size + 1 + 1) [.string re, .string ke, .int .i64 life, .int .i64 iss, .slice (some ⟨gb, 0, none⟩) en c2] _ rfl (by exact (RS.out.put XD.out).range) Tryz.underlying49 rfl (sizeG _ _ _ _ _)) (by exact VerP.of E.out (belowK_t BS.out (belowK_b (Nat.le_refl _) _ _ _ _ WD.out XD.out rfl rfl)) (by rw [List.length_set]; exact HEN.out) (Rds.put (fun hn => ⟨gb, 0, rfl, World.block_lt_of_cell? _ _ (RD.out 0 _ (List.getElem?_eq_getElem hn)), fun k u hu => by have := RD.out k u hu; simpa using this⟩) XD.out))
      · obtain rfl : k = n := by omega
        have E := Lib.hid (VN.out NB.out (by rw [HP.out, List.drop_of_length_le (by rw [HN.out]; exact Nat.le_refl _)]; rfl))
        clear R4 R8 BQ
        have R4 := R4r; have R8 := R8r; have BQ := BQr
        have HAe := Lib.hid ((HAs.out.below BR.out).up BR.out.size)
        go_wp2_with (first
          | (with_reducible refine wpList_loadR rfl 49 (.tmp 4) rfl R4.out rfl Tryz.underlying49 rfl (sizeG _ _ _ _ _) ?_)
          | (with_reducible refine wpList_storeR rfl 49 (.tmp 8) (.tmp 58) rfl R8.out [.string re, .string ke, .int .i64 life, .int .i64 iss, .slice A2 en c2] rfl rfl (lenG _ _ _ _ _ _ _ _ _ _) (sizeG _ _ _ _ _) (g_one _ _ _ _ _ _ _) BQ.out (by omega) ?_))
        intro w9 R9 B9 H9
        go_wp2_with fail
        exact leavesM_ret (results_ctu rfl _ _ _ (w.heap.size + 1 + 1) [.string re, .string ke, .int .i64 life, .int .i64 iss, .slice A2 en c2] _ rfl R9.out.range Tryz.underlying49 rfl (sizeG _ _ _ _ _)) rfl (by exact VerP.of E.out B9.out HEN.out (HAe.out.heapR (fun b o s e => by have := NEW2.out b o s e; omega) H9.out.1 H9.out.2))
  · have d0 : (code != 0) = true := by simp [k0]
    clear k0
    have E := Lib.hid (VB.out (by rw [BV.out, d0]; rfl))
    go_wp2_with (with_reducible refine wpList_storeR rfl 49 (.tmp 8) (.tmp 35) rfl R8.out [.string ⟨#[]⟩, .string ⟨#[]⟩, .int .i64 0, .int .i64 0, .slice none 0 0] rfl rfl (lenG _ _ _ _ _ _ _ _ _ _) (sizeG _ _ _ _ _) (g_one _ _ _ _ _ _ _) BQ.out (by omega) ?_)
    intro w9 R9 B9 _
    go_wp2_with fail
    exact leavesM_ret (results_ctu rfl _ _ _ (w.heap.size + 1 + 1) [.string ⟨#[]⟩, .string ⟨#[]⟩, .int .i64 0, .int .i64 0, .slice none 0 0] _ rfl R9.out.range Tryz.underlying49 rfl sizeG3) rfl (by exact VerP.zero E.out B9.out)
end Go.Proofs.YtfhbpgickkibmaaGreatDoor
namespace Go.Proofs.YtfhbpgickkibmaaGreatDoor
open Go.RowKit

theorem verifyHolds : VerifyHolds := verify_any
theorem verifies_any (re ke ms uri rsn : ByteArray) (life iss code now : Int) (Ea U A B : Option Addr) (en ec un uc n c m d : Nat) (l : List Nce) (us hs : List (ByteArray × ByteArray)) (bs : List Int) (w : World)
    (hE : Rds w w.heap.size Ea (ncs l)) (hen : l.length = en) (henN : en ≤ 1048576) (hU : Rds w w.heap.size U (hds us)) (hun : us.length = un) (hunN : un ≤ 1048576) (hus : ∀ h ∈ us, h.2.size ≤ 1048576)
    (hA : Rds w w.heap.size A (hds hs)) (hn : hs.length = n) (hN : n ≤ 1048576) (hl : ∀ h ∈ hs, h.1.size ≤ 1048576 ∧ h.2.size ≤ 1048576) (hb : By bs) (hm : bs.length = m) (hM : m ≤ 1048576) (hB : Bs w w.heap.size B bs)
    (s1 : re.size ≤ 1048576) (s2 : ke.size ≤ 1048576) (s7 : ms.size ≤ 1048576) (s8 : uri.size ≤ 1048576) (hnil : Ea = none → en = 0 ∧ ec = 0) (hG : GM w) (hK : KC w) (hS : SC w) :
    Calls Tryz.prog 6 #[.agg #[.string re, .string ke, .int .i64 life, .int .i64 iss, .slice Ea en ec, .slice U un uc, .int .i64 now], .agg #[.string ms, .string uri, .int .i64 code, .string rsn, .slice A n c, .slice B m d]] w fun e w' => e = .returned (.bool true) ∧ Below w.heap.size w w' :=
  verifies_of verifyHolds re ke ms uri rsn life iss code now Ea U A B en ec un uc n c m d l us hs bs w hE hen henN hU hun hunN hus hA hn hN hl hb hm hM hB s1 s2 s7 s8 hnil hG hK hS
end Go.Proofs.YtfhbpgickkibmaaGreatDoor
