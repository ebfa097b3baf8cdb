/- The law HashHex. -/
import Derived.Test.YtldonfgdomeacaaDoorRe
import Derived.Test.YtldonfgdomeacaaDoorLk
namespace Go.Proofs.YtldonfgdomeacaaDoor
open Go.RowKit

theorem owns_below {w w' : World} {base : Nat} {e : TypeId} {size : Nat} {v : Value} {n : Nat} {xs : List Value} (h : w.ownsRow base e size v n xs) (hb : Below w.heap.size w w') : w'.ownsRow base e size v n xs := by
  refine ⟨h.1, ?_⟩
  rcases h.2 with h0 | ⟨g, cap, cur, h1, h2, h3, h4⟩
  · exact .inl h0
  · exact .inr ⟨g, cap, cur, h1, h2, (hb.block g (lt_of_block h3)).trans h3, h4⟩
set_option maxRecDepth 100000 in
set_option maxHeartbeats 400000 in
theorem hexlaw_any (w : World) (A : Option Addr) (n c : Nat) (bs : List Int) (hb : By bs) (hn : bs.length = n) (hc : n ≤ c) (hA : Bs w w.heap.size A bs) (s : ByteArray) (hK : KC w) :
    Calls Tryd.prog 8 #[.slice A n c, .string s] w fun e w' => e = .returned (.bool true) ∧ Below w.heap.size w w' := by
  have HB := Lib.hid hb; have HN := Lib.hid hn; have HA := Lib.hid hA; have HK := Lib.hid hK
  clear hb hn hA hK
  by_cases h1 : 4000 < n
  · have d1 : decide (4000 < (n : Int)) = true := by simp; omega
    go_enter Tryd.func8, Tryd.ntmps8
    go_wp2_with fail
    refine (lives_any _ HK.out).mono ?_
    rintro e w1 ⟨rfl, hb1⟩
    have B1 := Lib.hid hb1
    clear hb1
    go_wp2_with fail
    go_ret
    exact ⟨rfl, B1.out⟩
  · have d1 : decide (4000 < (n : Int)) = false := by simp; omega
    by_cases h2 : 4000 < s.size
    · have d2 : decide (4000 < (s.size : Int)) = true := by simp; omega
      go_enter Tryd.func8, Tryd.ntmps8
      go_wp2_with fail
      refine (lives_any _ HK.out).mono ?_
      rintro e w1 ⟨rfl, hb1⟩
      have B1 := Lib.hid hb1
      clear hb1
      go_wp2_with fail
      go_ret
      exact ⟨rfl, B1.out⟩
    · have d2 : decide (4000 < (s.size : Int)) = false := by simp; omega
      have cn := fun w => run_convert_bytes_nil (P := Tryd.prog) w 22 5 Tryd.underlying22 Tryd.underlying5 0 0 9 Tryd.underlying9
      have CN := Lib.hid cn
      clear cn
      go_enter Tryd.func8, Tryd.ntmps8
      go_wp2_with fail
      refine (unhex_any s w (by omega)).mono ?_
      rintro e w1 ⟨hb1, he1⟩
      have B1 := Lib.hid hb1
      clear hb1
      cases hg : goodU (byteL s)
      · rw [hg, if_neg (by decide)] at he1
        subst he1
        have HG := Lib.hid hg
        clear hg
        go_wp2_with fail
        refine (refunhex_any s w1 (by omega)).mono ?_
        rintro e w2 ⟨hb2, he2⟩
        rw [HG.out, if_neg (by decide)] at he2
        subst he2
        have B2 := Lib.hid (B1.out.trans (hb2.mono B1.out.size))
        clear hb2
        go_wp2_with fail
        refine (hex_any A n c bs w2 HB.out ((HA.out.below B2.out).up B2.out.size) HN.out hc (by omega)).mono ?_
        rintro e w3 ⟨rfl, hb3⟩
        have B3 := Lib.hid (B2.out.trans (hb3.mono B2.out.size))
        clear hb3
        go_wp2_with fail
        refine (refhex_any A n c bs w3 HB.out ((HA.out.below B3.out).up B3.out.size) HN.out (by omega)).mono ?_
        rintro e w4 ⟨rfl, hb4⟩
        have B4 := Lib.hid (B3.out.trans (hb4.mono B3.out.size))
        clear hb4
        have cn := CN.out
        go_wp2_with fail
        refine (lives_any w4 (HK.out.below B4.out)).mono ?_
        rintro e w5 ⟨rfl, hb5⟩
        have B5 := Lib.hid (B4.out.trans (hb5.mono B4.out.size))
        clear hb5 cn
        go_wp2_with fail
        go_ret
        exact ⟨rfl, B5.out⟩
      · rw [hg, if_pos rfl] at he1
        obtain ⟨rfl, hr1⟩ := he1
        have R1 := Lib.hid hr1
        have HG := Lib.hid hg
        clear hg hr1
        go_wp2_with fail
        refine (refunhex_any s w1 (by omega)).mono ?_
        rintro e w2 ⟨hb2, he2⟩
        rw [HG.out, if_pos rfl] at he2
        obtain ⟨y, rfl, ho2⟩ := he2
        have B2 := Lib.hid (B1.out.trans (hb2.mono B1.out.size))
        have R2 := Lib.hid (R1.out.below hb2)
        have O2 := Lib.hid ho2
        clear hb2 ho2 R1
        go_wp2_with fail
        refine (hex_any A n c bs w2 HB.out ((HA.out.below B2.out).up B2.out.size) HN.out hc (by omega)).mono ?_
        rintro e w3 ⟨rfl, hb3⟩
        have B3 := Lib.hid (B2.out.trans (hb3.mono B2.out.size))
        have R3 := Lib.hid (R2.out.below hb3)
        have O3 := Lib.hid (owns_below O2.out hb3)
        clear hb3 R2 O2
        go_wp2_with fail
        refine (refhex_any A n c bs w3 HB.out ((HA.out.below B3.out).up B3.out.size) HN.out (by omega)).mono ?_
        rintro e w4 ⟨rfl, hb4⟩
        have B4 := Lib.hid (B3.out.trans (hb4.mono B3.out.size))
        have c1 := conv_row (n := (byteL s).length / 2) (cap := (byteL s).length / 2) (R3.out.below hb4) (unL_len _ _)
        have c2 := conv_owned (owns_below O3.out hb4)
        clear hb4 R3 O3
        go_wp2_with fail
        refine (lives_any w4 (HK.out.below B4.out)).mono ?_
        rintro e w5 ⟨rfl, hb5⟩
        have B5 := Lib.hid (B4.out.trans (hb5.mono B4.out.size))
        clear hb5 c1 c2
        go_wp2_with fail
        go_ret
        exact ⟨rfl, B5.out⟩
end Go.Proofs.YtldonfgdomeacaaDoor
