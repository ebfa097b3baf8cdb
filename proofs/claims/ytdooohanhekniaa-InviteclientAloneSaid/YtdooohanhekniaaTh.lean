/- InviteclientAlone's call. -/
import Derived.Test.YtdooohanhekniaaTg
namespace Go.Proofs.Ytdooohanhekniaa
open Go.RowKit

set_option maxRecDepth 100000 in
set_option maxHeartbeats 8000000 in
theorem alone_law (t : Int) (w : World) (h0 : 0 ≤ t) (h1 : t ≤ 65535) : Calls Try.prog 7 #[.int .u16 t] w (TrueBelow w) := by
  have e1 := start_inv.until_ (t := t) (by rw [startS_now]; omega)
  have hcl := Lib.hid e1.closed
  have hul := untilS_log startS t
  have hsl := startS_log
  clear e1
  go_enter Try.func7, Try.ntmps7
  go_wp2_with fail
  refine (simstart_any _).mono ?_
  rintro e w1 ⟨g, v, rfl, hlo, hS, hv, hB⟩
  have hgl := hS.lt
  have HU := Lib.hid (until_any g startS v t w1 hS (by omega) (by rw [startS_now]; omega) (by rw [startS_now]; omega) (by omega))
  have HV := Lib.hid hv; have HB := Lib.hid hB
  clear hS hv hB
  go_wp2_with fail
  refine HU.out.mono ?_
  rintro e w2 ⟨rfl, h2⟩
  have A2 := At.take HV.out hlo HB.out h2
  clear hgl HU h2
  obtain ⟨v2, hS2, hv2⟩ := A2.ex
  have hlt : (untilS startS t).log.length ≤ 200000 := by omega
  have hgl := hS2.lt
  have K := fun k u a b => Lib.hid (count_any g _ v2 k u a b w2 hS2 hlt)
  have KH := Lib.hid K
  have HC := Lib.hid (closed_any g _ v2 w2 hS2 hlt hcl.out)
  have HA := Lib.hid A2
  obtain ⟨c0, c1, c2⟩ := hS2.cm
  clear A2 hS2 hv2 HV HB K hcl
  by_cases h32 : t < 32000
  · obtain ⟨p1, p2, p3, p4⟩ := alone_lt h0 h32
    generalize untilS startS t = τ at *
    rw [p4] at c0
    have P1 := Lib.hid p1; have P2 := Lib.hid p2; have P3 := Lib.hid p3
    clear p1 p2 p3 p4 c1 c2
    go_wp2_with fail
    refine (KH.out _ _ _ _).out.mono ?_
    rw [P1.out]
    rintro e w' ⟨rfl, rfl⟩
    go_wp2_with fail
    refine (copies_any _ _).mono ?_
    rintro e w' ⟨rfl, rfl⟩
    go_wp2_with fail
    refine (KH.out _ _ _ _).out.mono ?_
    rw [P2.out]
    rintro e w' ⟨rfl, rfl⟩
    go_wp2_with fail
    refine (KH.out _ _ _ _).out.mono ?_
    rw [P3.out]
    rintro e w' ⟨rfl, rfl⟩
    go_wp2_with fail
    refine (works_any _).mono ?_
    rintro e w4 ⟨rfl, hb⟩
    have FIN := Lib.hid (HA.out.below hb).bw
    clear hb
    go_wp2_with fail
    go_ret
    exact ⟨rfl, FIN.out⟩
  · obtain ⟨p1, p2, p3, p4, p5, p6⟩ := alone_ge (t := t) (by omega)
    generalize untilS startS t = τ at *
    rw [p3] at c0 c1 c2
    have P1 := Lib.hid p1; have P2 := Lib.hid p2; have P4 := Lib.hid p4; have P5 := Lib.hid p5; have P6 := Lib.hid p6
    clear p1 p2 p3 p4 p5 p6
    go_wp2_with fail
    refine (KH.out _ _ _ _).out.mono ?_
    rw [P1.out]
    rintro e w' ⟨rfl, rfl⟩
    go_wp2_with fail
    refine (copies_any _ _).mono ?_
    rintro e w' ⟨rfl, rfl⟩
    go_wp2_with fail
    refine (KH.out _ _ _ _).out.mono ?_
    rw [P2.out]
    rintro e w' ⟨rfl, rfl⟩
    go_wp2_with fail
    refine (KH.out _ _ _ _).out.mono ?_
    rw [P4.out]
    rintro e w' ⟨rfl, rfl⟩
    go_wp2_with fail
    refine (KH.out _ _ _ _).out.mono ?_
    rw [P5.out]
    rintro e w' ⟨rfl, rfl⟩
    go_wp2_with fail
    refine (KH.out _ _ _ _).out.mono ?_
    rw [P6.out]
    rintro e w' ⟨rfl, rfl⟩
    go_wp2_with fail
    refine HC.out.mono ?_
    rintro e w3 ⟨rfl, q, rfl⟩
    have HA3 := Lib.hid (HA.out.below ⟨rfl, rfl, rfl, Nat.le_refl _, fun _ _ => rfl⟩ : At w g _ (w2.drewN q))
    clear c0 c1 c2 hgl HC HA
    go_wp2_with fail
    refine (works_any _).mono ?_
    rintro e w4 ⟨rfl, hb⟩
    have FIN := Lib.hid (HA3.out.below hb).bw
    clear hb
    go_wp2_with fail
    go_ret
    exact ⟨rfl, FIN.out⟩
end Go.Proofs.Ytdooohanhekniaa
