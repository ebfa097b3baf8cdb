/- Contracts: the writer's text; auth.PrintChallenge. -/
import Derived.Test.YtfhbpgickkibmaaGreatDoorCz
namespace Go.Proofs.YtfhbpgickkibmaaGreatDoor
open Go.RowKit

theorem byteL_app (a b : ByteArray) : byteL (a ++ b) = byteL a ++ byteL b := by
  unfold byteL
  rw [ByteArray.data_append]
  simp
theorem quoteL_len (l : List Int) : (quoteL l).length ≤ 2 * l.length + 2 := by
  unfold quoteL
  have := escL_len l
  simp
  omega
theorem clean_by {xs : List Int} (h : By xs) : By (quoteL xs) := quoteL_by h
theorem addT_eq_yes {L : Option (List (List Int))} {nm xs : List Int} (h : clean xs = true) : addT L nm xs = addP L (nq nm xs) := by unfold addT addP; rw [if_pos h]
theorem WS.bad {w : World} {g n : Nat} {L : Option (List (List Int))} {wr : World} (h : WS w g L n wr) : wr.cell? ⟨g, 1, none⟩ = some (.bool L.isNone) ∧ wr.frozen? ⟨g, 1, none⟩ = false ∧ WS w g L n (wr.setCell ⟨g, 1, none⟩ (.bool L.isNone)) ∧ WS w g none n (wr.setCell ⟨g, 1, none⟩ (.bool true)) := by
  obtain ⟨v, zs, h1, h2, h3⟩ := h
  exact ⟨h2.r.cell 1, h2.r.frozen 1, ⟨v, zs, h1, h2.setBad _, h3⟩, ⟨v, zs, h1, h2.setBad _, fun l hl => by cases hl⟩⟩
set_option maxRecDepth 100000 in
theorem text_any (w0 : World) (g n : Nat) (L : Option (List (List Int))) (nm x : ByteArray) (w : World) (H : WS w0 g L n w) (hn : n ≤ 99) (hm : nm.size ≤ 100) (hx : x.size ≤ 4000000) :
    Calls Tryz.prog 46 #[.pointer (some ⟨g, 0, none⟩), .string nm, .string x] w fun e w' => e = .returned (.tuple #[]) ∧ WS w0 g (addT L (byteL nm) (byteL x)) (n + 1) w' := by
  have H0 := Lib.hid H
  have NE := Lib.hid (fun (h : clean (byteL x) = false) => addT_no (L := L) (nm := byteL nm) h)
  have YE := Lib.hid (fun (h : clean (byteL x) = true) => (addT_eq_yes (L := L) (nm := byteL nm) h).trans (show addP L (nq (byteL nm) (byteL x)) = addP L (byteL (nm ++ ⟨#[61]⟩ ++ strOfNums (quoteL (byteL x)))) by
    rw [byteL_app, byteL_app, byteL_str (quoteL_by (byteL_by x))]; rfl))
  have QS := quoteL_len (byteL x)
  rw [byteL_len, ← num_size] at QS
  clear H
  generalize addT L (byteL nm) (byteL x) = LT at *
  go_enter Tryz.func46, Tryz.ntmps46
  go_wp2_with fail
  refine (quote_any x _ hx).mono ?_
  rintro e w1 ⟨rfl, hb1⟩
  have H1 := Lib.hid (H0.out.below hb1)
  clear hb1 H0
  obtain ⟨c1, f1, s1, s2⟩ := H1.out.bad
  have S1 := Lib.hid s1; have S2 := Lib.hid s2
  clear s1 s2
  cases hcl : clean (byteL x) with
  | true =>
    have E := Lib.hid (YE.out hcl)
    rw [quoteV_yes hcl]
    clear hcl
    generalize strOfNums (quoteL (byteL x)) = q at *
    cases hL : L.isNone with
    | true =>
      rw [hL] at c1 S1
      clear hL
      go_wp2_with fail
      clear c1 f1
      refine (plain_any w0 g n L _ _ S1.out (by omega) (by rw [ByteArray.size_append, ByteArray.size_append]; show _ + 1 + _ ≤ _; omega)).mono ?_
      rintro e w3 ⟨rfl, h3⟩
      have H3 := Lib.hid h3; clear h3
      go_wp2_with fail
      go_end0
      exact ⟨rfl, by rw [E.out]; exact H3.out⟩
    | false =>
      rw [hL] at c1 S1
      clear hL
      go_wp2_with fail
      clear c1 f1
      refine (plain_any w0 g n L _ _ S1.out (by omega) (by rw [ByteArray.size_append, ByteArray.size_append]; show _ + 1 + _ ≤ _; omega)).mono ?_
      rintro e w3 ⟨rfl, h3⟩
      have H3 := Lib.hid h3; clear h3
      go_wp2_with fail
      go_end0
      exact ⟨rfl, by rw [E.out]; exact H3.out⟩
  | false =>
    have E := Lib.hid (NE.out hcl)
    rw [quoteV_no hcl]
    clear hcl
    cases hL : L.isNone with
    | true =>
      rw [hL] at c1
      clear hL
      go_wp2_with fail
      clear c1 f1
      refine (plain_any w0 g n none _ _ S2.out (by omega) (by rw [ByteArray.size_append, ByteArray.size_append]; show _ + 1 + 0 ≤ _; omega)).mono ?_
      rintro e w3 ⟨rfl, h3⟩
      have H3 := Lib.hid h3; clear h3
      go_wp2_with fail
      go_end0
      exact ⟨rfl, by rw [E.out]; exact H3.out⟩
    | false =>
      rw [hL] at c1
      clear hL
      go_wp2_with fail
      clear c1 f1
      refine (plain_any w0 g n none _ _ S2.out (by omega) (by rw [ByteArray.size_append, ByteArray.size_append]; show _ + 1 + 0 ≤ _; omega)).mono ?_
      rintro e w3 ⟨rfl, h3⟩
      have H3 := Lib.hid h3; clear h3
      go_wp2_with fail
      go_end0
      exact ⟨rfl, by rw [E.out]; exact H3.out⟩
theorem WS.new (w : World) : WS w w.heap.size (some []) 0 (w.alloc (.cells #[.slice none 0 0, .bool false] 101)) :=
  ⟨.slice none 0 0, [], rfl, ⟨(Below.refl _ _).alloc (Nat.le_refl _) _, Nat.le_refl _, Row.new w 101 [.slice none 0 0, .bool false], World.ownsRow_nil _ _ _ _⟩, fun l hl => by cases hl; exact ⟨rfl, fun p hp => by cases hp⟩⟩
end Go.Proofs.YtfhbpgickkibmaaGreatDoor
