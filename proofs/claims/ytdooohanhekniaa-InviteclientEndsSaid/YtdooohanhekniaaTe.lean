/- InviteclientEnds's call. -/
import Derived.Test.YtdooohanhekniaaTd
namespace Go.Proofs.Ytdooohanhekniaa
open Go.RowKit

set_option maxRecDepth 100000 in
set_option maxHeartbeats 4000000 in
theorem ends_law (A : Option Addr) (n c : Nat) (l : List Ev) (w : World) (hl : Evs w A n l) (hn : (n : Int) ≤ 9223372036854775807) : Calls Try.prog 5 #[.slice A n c] w (TrueBelow w) := by
  obtain ⟨hinv, hnow, hlog⟩ := play_inv l hl.2.1
  have HP := Lib.hid (play_any A n c l w hl hn)
  obtain ⟨e1, e2, e3⟩ := ends_fact hinv
  have hn0 := hinv.nw
  have hul := untilS_log (playS l) ((playS l).now + 32000)
  have hcl := Lib.hid e1.closed
  generalize playS l = σ at *
  clear hl hn
  have HE2 := Lib.hid e2; have HE3 := Lib.hid e3
  clear e1 e2 e3 hinv
  go_enter Try.func5, Try.ntmps5
  go_wp2_with fail
  refine HP.out.mono ?_
  rintro e w1 ⟨g, v, rfl, hlo, hS, hv, hB⟩
  have c0 := hS.cm.1
  have c17 := hS.cnow
  have hgl := hS.lt
  have HU := Lib.hid (until_any g σ v (σ.now + 32000) w1 hS (by omega) hn0 (by omega) (by omega))
  have HV := Lib.hid hv; have HB := Lib.hid hB
  clear hS hv hB HP
  go_wp2_with fail
  refine HU.out.mono ?_
  rintro e w2 ⟨rfl, h1⟩
  have A2 := At.take HV.out hlo HB.out h1
  clear c0 c17 hgl HU h1
  obtain ⟨v2, hS2, hv2⟩ := A2.ex
  have c0 := hS2.cm.1
  have hgl := hS2.lt
  have HC := Lib.hid (closed_any g _ v2 w2 hS2 (by omega) hcl.out)
  have HA := Lib.hid A2
  clear A2 hS2 hv2 HV HB
  by_cases h3 : σ.m.st = 3
  · have hm := HE2.out h3
    have g3 : (σ.m.st == 3) = true := by simpa using h3
    rw [hm] at c0
    clear hm h3
    go_wp2_with fail
    refine HC.out.mono ?_
    rintro e w3 ⟨rfl, q, rfl⟩
    have HA3 := Lib.hid (HA.out.below ⟨rfl, rfl, rfl, Nat.le_refl _, fun _ _ => rfl⟩ : At w g _ (w2.drewN q))
    clear c0 hgl HC HA
    go_wp2_with fail
    refine (works_any _).mono ?_
    rintro e w4 ⟨rfl, hb⟩
    have FIN := Lib.hid (HA3.out.below hb).bw
    clear hb
    go_wp2_with fail
    go_ret
    exact ⟨rfl, FIN.out⟩
  · have hm := HE3.out h3
    have g3 : (σ.m.st == 3) = false := by simpa using h3
    rw [hm] at c0
    clear hm h3
    go_wp2_with fail
    refine HC.out.mono ?_
    rintro e w3 ⟨rfl, q, rfl⟩
    have HA3 := Lib.hid (HA.out.below ⟨rfl, rfl, rfl, Nat.le_refl _, fun _ _ => rfl⟩ : At w g _ (w2.drewN q))
    clear c0 hgl HC HA
    go_wp2_with fail
    refine (works_any _).mono ?_
    rintro e w4 ⟨rfl, hb⟩
    have FIN := Lib.hid (HA3.out.below hb).bw
    clear hb
    go_wp2_with fail
    go_ret
    exact ⟨rfl, FIN.out⟩
end Go.Proofs.Ytdooohanhekniaa
