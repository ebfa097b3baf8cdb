/- Plain laws of hexadecimal texts. -/
import Derived.Test.YtldonfgdomeacaaDoorRb
namespace Go.Proofs.YtldonfgdomeacaaDoor
open Go.RowKit

theorem digOk_hexC {n : Int} (h0 : 0 ≤ n) (h1 : n < 16) : digOk (hexC n) = true := by
  unfold digOk hexC
  split
  · rw [decide_eq_true (by omega)]; rfl
  · rw [Bool.or_eq_true, Bool.or_eq_true]; right; left; simp; omega
theorem digV_hexC {n : Int} (h0 : 0 ≤ n) (h1 : n < 16) : digV (hexC n) = n := by
  unfold digV hexC
  split
  · rw [if_pos (by omega)]; omega
  · rw [if_neg (by omega), if_pos (by omega)]; omega
theorem hexC_digV {c : Int} (h : digOk c = true) : hexC (digV c) = lowC c := by
  unfold digOk at h
  rw [Bool.or_eq_true, Bool.or_eq_true, decide_eq_true_eq, decide_eq_true_eq, decide_eq_true_eq] at h
  unfold hexC digV lowC
  rcases h with h | h | h
  · rw [if_pos h, if_pos (by omega), if_neg (by omega)]; omega
  · rw [if_neg (by omega), if_pos h, if_neg (by omega), if_neg (by omega)]; omega
  · rw [if_neg (by omega), if_neg (by omega), if_pos h, if_neg (by omega), if_pos h]; omega
theorem hexL_at : ∀ (bs : List Int) (k : Nat), k < bs.length → (hexL bs).getD (2 * k) 0 = hexC (bs.getD k 0 / 16) ∧ (hexL bs).getD (2 * k + 1) 0 = hexC (bs.getD k 0 % 16)
  | [], k, h => absurd h (by simp)
  | b :: bs, 0, _ => ⟨rfl, rfl⟩
  | b :: bs, k + 1, h => by
    have ih := hexL_at bs k (by simpa using h)
    rw [show hexL (b :: bs) = hexC (b / 16) :: hexC (b % 16) :: hexL bs from rfl, show 2 * (k + 1) = 2 * k + 1 + 1 by omega]
    exact ih
theorem list_ext {a b : List Int} (hl : a.length = b.length) (h : ∀ i, i < a.length → a.getD i 0 = b.getD i 0) : a = b := by
  apply List.ext_getElem hl
  intro i h1 h2
  have := h i h1
  rwa [List.getD_eq_getElem?_getD, List.getD_eq_getElem?_getD, List.getElem?_eq_getElem h1, List.getElem?_eq_getElem h2] at this
theorem getD_mem {l : List Int} {i : Nat} (h : i < l.length) : l.getD i 0 ∈ l := List.mem_of_getElem? (getD_some h)
theorem hexL_good {bs : List Int} (h : By bs) : goodU (hexL bs) = true := by
  unfold goodU
  rw [Bool.and_eq_true, List.all_eq_true]
  refine ⟨by rw [hexL_len]; simp, fun x hx => ?_⟩
  obtain ⟨b, hb, hx⟩ := List.mem_flatMap.1 hx
  have := h b hb
  simp [hexP] at hx
  rcases hx with rfl | rfl
  · exact digOk_hexC (by omega) (by omega)
  · exact digOk_hexC (by omega) (by omega)
theorem unL_at (xs : List Int) {n k : Nat} (h : k < n) : (unL xs n).getD k 0 = unB xs k := by
  rw [List.getD_eq_getElem?_getD, unL, List.getElem?_map, List.getElem?_range h]; rfl
theorem unL_hexL {bs : List Int} (h : By bs) : unL (hexL bs) bs.length = bs := by
  refine list_ext (unL_len _ _) fun i hi => ?_
  rw [unL_len] at hi
  have hb := h _ (getD_mem hi)
  rw [unL_at _ hi]
  unfold unB
  rw [(hexL_at bs i hi).1, (hexL_at bs i hi).2, digV_hexC (by omega) (by omega), digV_hexC (by omega) (by omega)]
  omega
theorem lowL_at (xs : List Int) {i : Nat} (h : i < xs.length) : (lowL xs).getD i 0 = lowC (xs.getD i 0) := by
  rw [List.getD_eq_getElem?_getD, List.getD_eq_getElem?_getD, lowL, List.getElem?_map, List.getElem?_eq_getElem h]; rfl
theorem hexL_unL {xs : List Int} (h : goodU xs = true) : hexL (unL xs (xs.length / 2)) = lowL xs := by
  unfold goodU at h
  rw [Bool.and_eq_true, decide_eq_true_eq, List.all_eq_true] at h
  obtain ⟨h1, h2⟩ := h
  refine list_ext (by rw [hexL_len, unL_len, lowL_len]; omega) fun i hi => ?_
  rw [hexL_len, unL_len] at hi
  have hk : i / 2 < xs.length / 2 := by omega
  have ha := hexL_at (unL xs (xs.length / 2)) (i / 2) (by rw [unL_len]; exact hk)
  rw [unL_at _ hk] at ha
  have r1 := digV_range (xs.getD (2 * (i / 2)) 0)
  have r2 := digV_range (xs.getD (2 * (i / 2) + 1) 0)
  rcases (show i = 2 * (i / 2) ∨ i = 2 * (i / 2) + 1 by omega) with e | e
  · rw [e, ha.1, lowL_at _ (by omega), ← hexC_digV (h2 _ (getD_mem (by omega)))]
    congr 1
    unfold unB
    omega
  · rw [e, ha.2, lowL_at _ (by omega), ← hexC_digV (h2 _ (getD_mem (by omega)))]
    congr 1
    unfold unB
    omega
theorem byteL_str {l : List Int} (h : By l) : byteL (strOfNums l) = l := by
  unfold byteL
  rw [strOfNums_data, List.map_map]
  conv => rhs; rw [← List.map_id l]
  refine List.map_congr_left fun x hx => ?_
  have := h x hx
  simp only [Function.comp, id, UInt8.toNat_ofNat']
  omega
/-- string(b) of an argument. -/
theorem conv_bs {w : World} {B : Nat} {A : Option Addr} {n c : Nat} {bs : List Int} (hA : Bs w B A bs) (hb : By bs) (hn : bs.length = n) : (convert 22 9 (.slice A n c)).run Tryd.prog w = .ok (.string (strOfNums bs)) w := by
  cases A with
  | none =>
    obtain rfl : bs = [] := by
      rcases Nat.eq_zero_or_pos bs.length with h | h
      · exact List.eq_nil_of_length_eq_zero h
      · obtain ⟨_, e, _⟩ := hA h; cases e
    exact run_convert_bytes_nil w 22 5 Tryd.underlying22 Tryd.underlying5 n c 9 Tryd.underlying9
  | some ad =>
    have h := run_convert_bytes_back (P := Tryd.prog) w 22 9 5 ad c (bs.map fun x => UInt8.ofNat x.toNat) Tryd.underlying22 Tryd.underlying5 Tryd.underlying9 (fun j hj => by
      have hj' : j < bs.length := by simpa using hj
      obtain ⟨ad', e, _, hc⟩ := hA (by omega)
      cases e
      have hx := h_at hb hj'
      rw [hc j _ (List.getElem?_eq_getElem hj')]
      simp only [List.getElem_map, UInt8.toNat_ofNat']
      congr 2
      omega)
    rw [List.length_map, hn] at h
    exact h
where
  h_at {bs : List Int} (hb : By bs) {j : Nat} (hj : j < bs.length) : 0 ≤ bs[j] ∧ bs[j] < 256 := hb _ (List.getElem_mem hj)
end Go.Proofs.YtldonfgdomeacaaDoor
