/- Contracts of the simulated machine's count and closed. -/
import Derived.Test.YtdooohanhekniaaSe
namespace Go.Proofs.Ytdooohanhekniaa
open Go.RowKit

theorem esC_get : ∀ (l : List Ent) (j : Nat) (x : Ent), l[j]? = some x → (esC l)[j * 5]? = some (.int .i64 x.at_) ∧ (esC l)[j * 5 + 1]? = some (.int .u8 x.out.kind) ∧ (esC l)[j * 5 + 2]? = some (.int .i64 x.out.code) ∧ (esC l)[j * 5 + 3]? = some (.int .u8 x.out.timer) ∧ (esC l)[j * 5 + 4]? = some (.int .i64 x.out.after)
  | [], j, x, h => by simp at h
  | y :: l, 0, x, h => by
    obtain rfl : y = x := by simpa using h
    exact ⟨rfl, rfl, rfl, rfl, rfl⟩
  | y :: l, j + 1, x, h => by
    have ih := esC_get l j x (by simpa using h)
    have e : ∀ f, (esC (y :: l))[(j + 1) * 5 + f]? = (esC l)[j * 5 + f]? := fun f => by
      show (eC y ++ esC l)[(j + 1) * 5 + f]? = _
      rw [List.getElem?_append_right (by simp [eC, oC]; omega)]
      congr 1
      simp [eC, oC]; omega
    exact ⟨(e 0).trans ih.1, (e 1).trans ih.2.1, (e 2).trans ih.2.2.1, (e 3).trans ih.2.2.2.1, (e 4).trans ih.2.2.2.2⟩

/-- The log's value, and the cells of its entries. -/
theorem SimV.logAt {w : World} {g : Nat} {σ : Sim} {v : Value} (h : SimV w g σ v) : ∃ A cap, v = .slice A σ.log.length cap ∧ σ.log.length ≤ cap ∧ (0 < σ.log.length → ∃ b, A = some ⟨b, 0, none⟩ ∧ b < w.heap.size ∧ b ≠ g ∧ ∀ (j : Nat) (x : Ent), σ.log[j]? = some x →
    w.cell? ⟨b, j * 5, none⟩ = some (.int .i64 x.at_) ∧ w.cell? ⟨b, j * 5 + 1, none⟩ = some (.int .u8 x.out.kind) ∧ w.cell? ⟨b, j * 5 + 2, none⟩ = some (.int .i64 x.out.code) ∧ w.cell? ⟨b, j * 5 + 3, none⟩ = some (.int .u8 x.out.timer) ∧ w.cell? ⟨b, j * 5 + 4, none⟩ = some (.int .i64 x.out.after)) := by
  have hown := h.own
  have hlt := hown.lt
  rcases hown.2 with ⟨rfl, e⟩ | ⟨b, cap, cur, rfl, _, hb, hc, _, hs, ht⟩
  · exact ⟨none, 0, by rw [e], by omega, fun h => absurd h (by omega)⟩
  · refine ⟨_, cap, rfl, hc, fun _ => ⟨b, rfl, (hlt b rfl).2, fun e => h.ne (by rw [← e]; rfl), fun j x hx => ?_⟩⟩
    obtain ⟨g0, g1, g2, g3, g4⟩ := esC_get σ.log j x hx
    have cell : ∀ i u, (esC σ.log)[i]? = some u → w.cell? ⟨b, i, none⟩ = some u := fun i u hu => by
      rw [cell_of_row w b i cur _ (0, 0) hb]
      rw [← ht, List.getElem?_take] at hu
      split at hu
      · rw [← hu, Array.getElem?_toList]
      · cases hu
    exact ⟨cell _ _ g0, cell _ _ g1, cell _ _ g2, cell _ _ g3, cell _ _ g4⟩

def hit (k u a b : Int) (x : Ent) : Bool := x.out.kind == k && decide (x.at_ ≤ u) && decide (a ≤ x.out.code) && decide (x.out.code ≤ b)
def cnt (k u a b : Int) (l : List Ent) : Int := ((l.filter (hit k u a b)).length : Int)
theorem cnt_snoc (k u a b : Int) (l : List Ent) (x : Ent) : cnt k u a b (l ++ [x]) = cnt k u a b l + if hit k u a b x then 1 else 0 := by
  unfold cnt; rw [List.filter_append]
  by_cases h : hit k u a b x = true <;> simp [h]
theorem cnt_range (k u a b : Int) (l : List Ent) : 0 ≤ cnt k u a b l ∧ cnt k u a b l ≤ l.length := by
  unfold cnt; have := List.length_filter_le (hit k u a b) l; omega
def CntR (k u a b : Int) (l : List Ent) (n i : Value) : Prop := ∃ j : Nat, j ≤ l.length ∧ i = .int .i64 j ∧ n = .int .i64 (cnt k u a b (l.take j))

set_option maxRecDepth 100000 in
set_option maxHeartbeats 4000000 in
theorem count_any (g : Nat) (σ : Sim) (v : Value) (k u a b : Int) (w : World) (hs : SimV w g σ v) (hlog : σ.log.length ≤ 200000) :
    Calls Try.prog 13 #[.pointer (some ⟨g, 0, none⟩), .int .u8 k, .int .i64 u, .int .i64 a, .int .i64 b] w fun e w' => e = .returned (.int .i64 (cnt k u a b σ.log)) ∧ w = w' := by
  have hcl := hs.clog
  have hgl := hs.lt
  obtain ⟨A, cap, hv, hcap, hcells⟩ := hs.logAt
  generalize σ.log = l at *
  subst hv
  clear hs
  have HC := Lib.hid hcells
  clear hcells
  obtain ⟨n, hn⟩ : ∃ n, n = l.length := ⟨_, rfl⟩
  have HN := Lib.hid hn
  rw [← hn] at hlog hcl hcap
  clear hn
  go_enter Try.func13, Try.ntmps13
  go_wp2
  go_loop [11, 12] (fun c i => CntR k u a b l c i) (fun _ i => n - (intOf i).toNat)
  case atStart => exact ⟨0, Nat.zero_le _, rfl, rfl⟩
  case round =>
    obtain ⟨j, hj, rfl, rfl⟩ := hrel
    obtain ⟨r0, r1⟩ := cnt_range k u a b (l.take j)
    have r2 : (l.take j).length ≤ j := List.length_take_le _ _
    by_cases hlt : j < n
    · have hn := HN.out
      obtain ⟨x, hx⟩ : ∃ x, l[j]? = some x := ⟨l[j]'(by omega), List.getElem?_eq_getElem (by omega)⟩
      obtain ⟨bb, rfl, hbb, hne, hcb⟩ := HC.out (by omega)
      obtain ⟨a0, a1, a2, a3, a4⟩ := hcb j x hx
      have hsn := cnt_snoc k u a b (l.take j) x
      rw [show l.take j ++ [x] = l.take (j + 1) by rw [List.take_add_one, hx]; rfl] at hsn
      generalize cnt k u a b (l.take j) = c at *
      have NEXT := Lib.hid (fun (z : Int) (hz : z = c + if hit k u a b x then 1 else 0) => show CntR k u a b l (.int .i64 z) (.int .i64 (j + 1 : Nat)) from ⟨j + 1, by omega, rfl, by rw [hsn, hz]⟩)
      have hc200 : c ≤ 200000 := by omega
      clear hn hcb hx hsn a3 a4 r1 r2
      obtain ⟨xa, xk, xc, xt, xf⟩ := x
      simp only at a0 a1 a2
      by_cases h1 : xk = k
      · have g1 : (xk == k) = true := by simpa using h1
        by_cases h2 : xa ≤ u
        · by_cases h3 : a ≤ xc
          · by_cases h4 : xc ≤ b
            · have E := Lib.hid (show c + 1 = c + if hit k u a b ⟨xa, xk, xc, xt, xf⟩ then 1 else 0 by simp [hit, h1, h2, h3, h4])
              clear h1
              go_wp2
              go_round
              case rel => exact NEXT.out _ E.out
              case measure => simp [intOf]; omega
            · have E := Lib.hid (show c = c + if hit k u a b ⟨xa, xk, xc, xt, xf⟩ then 1 else 0 by simp [hit, h4])
              clear h1
              go_wp2
              go_round
              case rel => exact NEXT.out _ E.out
              case measure => simp [intOf]; omega
          · have E := Lib.hid (show c = c + if hit k u a b ⟨xa, xk, xc, xt, xf⟩ then 1 else 0 by simp [hit, h3])
            clear h1
            go_wp2
            go_round
            case rel => exact NEXT.out _ E.out
            case measure => simp [intOf]; omega
        · have E := Lib.hid (show c = c + if hit k u a b ⟨xa, xk, xc, xt, xf⟩ then 1 else 0 by simp [hit, h2])
          clear h1
          go_wp2
          go_round
          case rel => exact NEXT.out _ E.out
          case measure => simp [intOf]; omega
      · have g1 : (xk == k) = false := by simpa using h1
        have E := Lib.hid (show c = c + if hit k u a b ⟨xa, xk, xc, xt, xf⟩ then 1 else 0 by simp [hit, h1])
        clear h1
        go_wp2
        go_round
        case rel => exact NEXT.out _ E.out
        case measure => simp [intOf]; omega
    · have hjl : j = l.length := by have := HN.out; omega
      have E := Lib.hid (show cnt k u a b (l.take j) = cnt k u a b l by rw [hjl, List.take_length])
      obtain rfl : j = n := by have := HN.out; omega
      clear hjl
      generalize cnt k u a b (l.take j) = c at *
      go_wp2
      go_ret
      exact ⟨ret_int E.out, rfl⟩

def Closed (σ : Sim) : Prop := (cnt 7 σ.now 0 1000 σ.log = 0 ∧ σ.m.st ≠ 7) ∨ (cnt 7 σ.now 0 1000 σ.log = 1 ∧ σ.m.st = 7 ∧ ∃ l x, σ.log = l ++ [x] ∧ x.out.kind = 7)
def TrueDraw (w : World) (e : Ending) (w' : World) : Prop := e = .returned (.bool true) ∧ ∃ q, w' = w.drewN q

set_option maxRecDepth 100000 in
set_option maxHeartbeats 4000000 in
theorem closed_any (g : Nat) (σ : Sim) (v : Value) (w : World) (hs : SimV w g σ v) (hlog : σ.log.length ≤ 200000) (hcl : Closed σ) :
    Calls Try.prog 15 #[.pointer (some ⟨g, 0, none⟩)] w (TrueDraw w) := by
  have hcnt := count_any g σ v 7 σ.now 0 1000 w hs hlog
  have c17 := hs.cnow
  have c18 := hs.clog
  have c0 := hs.cm.1
  have hgl := hs.lt
  rcases hcl with ⟨h0, h1⟩ | ⟨h0, h1, l, x, hl, hx⟩
  · rw [h0] at hcnt
    have HC := Lib.hid hcnt
    have g1 : (σ.m.st == 7) = false := by simpa using h1
    clear hcnt h0 h1 hs
    go_enter Try.func15, Try.ntmps15
    go_wp2_with fail
    refine HC.out.mono ?_
    rintro e w' ⟨rfl, rfl⟩
    go_wp2_with fail
    go_quiet (fail)
    go_wp2_with fail
    go_ret
    exact ⟨rfl, _, rfl⟩
  · rw [h0] at hcnt
    have HC := Lib.hid hcnt
    obtain ⟨A, cap, rfl, hcap, hcells⟩ := hs.logAt
    obtain ⟨b, rfl, hb, hne, hcb⟩ := hcells (by rw [hl]; simp)
    obtain ⟨_, a1, _⟩ := hcb (σ.log.length - 1) x (by rw [hl]; simp)
    rw [hx] at a1
    have hpos : 0 < σ.log.length := by rw [hl]; simp
    generalize σ.log.length = n at *
    obtain ⟨m, rfl⟩ : ∃ m, n = m + 1 := ⟨n - 1, by omega⟩
    rw [Nat.add_sub_cancel] at a1
    rw [h1] at c0
    clear hcnt h0 h1 hs hl hx hcb hcells
    go_enter Try.func15, Try.ntmps15
    go_wp2_with fail
    refine HC.out.mono ?_
    rintro e w' ⟨rfl, rfl⟩
    go_wp2_with fail
    go_quiet (fail)
    go_wp2_with fail
    go_ret
    exact ⟨rfl, _, rfl⟩
end Go.Proofs.Ytdooohanhekniaa
