/- InviteserverRepeats's call. -/
import Derived.Test.YtgjhnaionalbpaaTf
import Derived.Test.YtgjhnaionalbpaaP
namespace Go.Proofs.Ytgjhnaionalbpaa
open Go.RowKit

set_option maxRecDepth 100000 in
set_option maxHeartbeats 4000000 in
theorem answer_any (g : Nat) (σ : Sim) (v : Value) (c : Int) (w : World) (hs : SimV w g σ v) (hlog : σ.log.length ≤ 100000) (hn0 : 0 ≤ σ.now) (hn1 : σ.now ≤ 1000000000) :
    Calls Try.prog 24 #[.pointer (some ⟨g, 0, none⟩), .int .i64 c] w (TakeP w g v (giveS σ ⟨4, c, 0⟩)) := by
  have HG := Lib.hid (give_any g σ v 4 c 0 w hs hlog hn0 hn1)
  clear hs hlog hn0 hn1
  go_enter Try.func24, Try.ntmps24
  go_wp2_with fail
  refine HG.out.mono ?_
  rintro e w1 ⟨rfl, h1⟩
  have H1 := Lib.hid h1
  clear h1
  go_wp2_with fail
  go_end0
  exact ⟨rfl, H1.out⟩

theorem rej0_len (c : Int) : (rej0 c).log.length ≤ 5 := by
  have := giveS_log (untilS startS 700) ⟨4, c, 0⟩
  rw [start_700] at this
  unfold rej0
  rw [start_700]
  simp only [List.length_append, List.length_cons, List.length_nil] at this
  omega

set_option maxRecDepth 100000 in
set_option maxHeartbeats 8000000 in
theorem repeats_law (code ack : Int) (w : World) (a0 : 0 ≤ code) (a1 : code ≤ 65535) (b0 : 0 ≤ ack) (b1 : ack ≤ 65535) : Calls Try.prog 7 #[.int .u16 code, .int .u16 ack] w (TrueBelow w) := by
  have hsn := startS_now
  have hsl := startS_log
  go_enter Try.func7, Try.ntmps7
  go_wp2_with fail
  generalize hc : 300 + code % 400 = c
  have h1 : 300 ≤ c := by omega
  have h2 : c ≤ 699 := by omega
  clear hc a0 a1
  refine (simstart_any _).mono ?_
  rintro e w1 ⟨g, v, rfl, hlo, hS, hv, hB⟩
  have HU := Lib.hid (until_any g startS v 700 w1 hS (by omega) (by omega) (by omega) (by omega))
  have HV := Lib.hid hv; have HB := Lib.hid hB
  clear hS hv hB
  go_wp2_with fail
  refine HU.out.mono ?_
  rintro e w2 ⟨rfl, h3⟩
  have A2 := At.take HV.out hlo HB.out h3
  clear HU HV HB h3 hsn hsl
  obtain ⟨v2, hS2, hv2⟩ := A2.ex
  have HG := Lib.hid (show Calls Try.prog 24 _ w2 (TakeP w2 g v2 (rej0 c)) from answer_any g (untilS startS 700) v2 c w2 hS2 (by rw [start_700]; simp) (by rw [start_700]; simp) (by rw [start_700]; simp))
  have HV := Lib.hid hv2; have HB := Lib.hid A2.bw
  clear hS2 hv2 A2
  go_wp2_with fail
  refine HG.out.mono ?_
  rintro e w3 ⟨rfl, h3⟩
  have A2 := At.take HV.out hlo HB.out h3
  clear HG HV HB h3
  obtain ⟨v3, hS2, hv2⟩ := A2.ex
  have hln := rej0_len c
  have hul := fun t => untilS_log (rej0 c) (700 + t)
  have HU := Lib.hid (fun (t : Int) (h : t ≤ 32000) => show Calls Try.prog 12 _ w3 (TakeP w3 g v3 (repA c t)) from until_any g (rej0 c) v3 (700 + t) w3 hS2 (by omega) (by rw [rej0_now]; omega) (by rw [rej0_now]; omega) (by omega))
  have HUL := Lib.hid hul
  have HV := Lib.hid hv2; have HB := Lib.hid A2.bw
  clear hS2 hv2 A2 hul
  by_cases ht : ack < 32000
  · have FA := rep_lt h1 h2 b0 ht
    have hlA := HUL.out ack
    have HF := Lib.hid FA
    clear FA
    go_wp2_with fail
    refine (HU.out _ (by omega)).mono ?_
    rintro e w4 ⟨rfl, h3⟩
    have A2 := At.take HV.out hlo HB.out h3
    clear HU HV HB h3
    obtain ⟨v4, hS2, hv2⟩ := A2.ex
    have hgl := hS2.lt
    have c17 := hS2.cnow
    have c0 := hS2.cm.1
    obtain ⟨⟨iA, nA, sA, kA⟩, ⟨nB, iB⟩, ⟨iC, nC, mC⟩, ⟨iD, nD, sD, tD, kD⟩⟩ := HF.out
    rw [nA] at c17
    rw [sA] at c0
    have hLA : (repA c ack).log.length ≤ 1000 := by unfold repA; omega
    have hLB : (repB c ack).log.length ≤ 1003 := by have := giveS_log (repA c ack) ⟨3, 0, 0⟩; unfold repB; omega
    have hLC : (repC c ack).log.length ≤ 1603 := by have := untilS_log (repB c ack) ((repB c ack).now + 4999); unfold repC; omega
    have hLD : (repD c ack).log.length ≤ 2203 := by have := untilS_log (repC c ack) ((repC c ack).now + 1); unfold repD; omega
    have HK := Lib.hid (count_any g _ v4 1 (700 + ack) c c w4 hS2 (by omega))
    have HG := Lib.hid (show Calls Try.prog 13 _ w4 (TakeP w4 g v4 (repB c ack)) from give_any g (repA c ack) v4 3 0 0 w4 hS2 (by omega) (by omega) (by omega))
    have HV := Lib.hid hv2; have HB := Lib.hid A2.bw
    have KA := Lib.hid kA; have NB := Lib.hid nB; have NC := Lib.hid nC; have MC := Lib.hid mC; have ND := Lib.hid nD; have SD := Lib.hid sD; have TD := Lib.hid tD; have KD := Lib.hid kD; have CL := Lib.hid iD.closed
    clear hS2 hv2 A2 HF iA nA sA kA nB iB iC nC mC iD nD sD tD kD hlA HUL
    go_wp2_with fail
    refine HK.out.mono ?_
    rw [KA.out]
    rintro e w' ⟨rfl, rfl⟩
    go_wp2_with fail
    refine (copies_any _ _).mono ?_
    rintro e w' ⟨rfl, rfl⟩
    go_wp2_with fail
    refine HG.out.mono ?_
    rintro e w5 ⟨rfl, h3⟩
    have A2 := At.take HV.out hlo HB.out h3
    clear HG HV HB h3 hgl c17 c0 HK
    obtain ⟨v5, hS2, hv2⟩ := A2.ex
    have hgl := hS2.lt
    have c17 := hS2.cnow
    rw [NB.out] at c17
    have HU := Lib.hid (show Calls Try.prog 12 #[.pointer (some ⟨g, 0, none⟩), .int .i64 (700 + ack + 4999)] w5 (TakeP w5 g v5 (repC c ack)) from by
      have h := until_any g (repB c ack) v5 ((repB c ack).now + 4999) w5 hS2 (by omega) (by rw [NB.out]; omega) (by rw [NB.out]; omega) (by rw [NB.out]; omega)
      have e : (repB c ack).now + 4999 = 700 + ack + 4999 := by rw [NB.out]
      unfold repC
      rw [e] at h ⊢
      exact h)
    have HV := Lib.hid hv2; have HB := Lib.hid A2.bw
    clear hS2 hv2 A2
    go_wp2_with fail
    refine HU.out.mono ?_
    rintro e w6 ⟨rfl, h3⟩
    have A2 := At.take HV.out hlo HB.out h3
    clear HU HV HB h3 hgl c17
    obtain ⟨v6, hS2, hv2⟩ := A2.ex
    have hgl := hS2.lt
    have c17 := hS2.cnow
    rw [NC.out] at c17
    obtain ⟨c0, c1, c2⟩ := hS2.cm
    rw [MC.out] at c0 c1 c2
    have HU := Lib.hid (show Calls Try.prog 12 #[.pointer (some ⟨g, 0, none⟩), .int .i64 (5699 + ack + 1)] w6 (TakeP w6 g v6 (repD c ack)) from by
      have h := until_any g (repC c ack) v6 ((repC c ack).now + 1) w6 hS2 (by omega) (by rw [NC.out]; omega) (by rw [NC.out]; omega) (by rw [NC.out]; omega)
      have e : (repC c ack).now + 1 = 5699 + ack + 1 := by rw [NC.out]
      unfold repD
      rw [e] at h ⊢
      exact h)
    have HV := Lib.hid hv2; have HB := Lib.hid A2.bw
    clear hS2 hv2 A2
    go_wp2_with fail
    refine HU.out.mono ?_
    rintro e w7 ⟨rfl, h3⟩
    have A2 := At.take HV.out hlo HB.out h3
    clear HU HV HB h3 hgl c17 c0 c1 c2
    obtain ⟨v7, hS2, hv2⟩ := A2.ex
    have hgl := hS2.lt
    have c17 := hS2.cnow
    rw [ND.out] at c17
    have c0 := hS2.cm.1
    rw [SD.out] at c0
    have K1 := Lib.hid (count_any g _ v7 5 (5700 + ack) 0 1000 w7 hS2 (by omega))
    have K2 := Lib.hid (count_any g _ v7 1 (5700 + ack) c c w7 hS2 (by omega))
    have HC := Lib.hid (closed_any g _ v7 w7 hS2 (by omega) CL.out)
    have HA := Lib.hid A2
    clear hS2 hv2 A2
    go_wp2_with fail
    refine K1.out.mono ?_
    rw [TD.out]
    rintro e w' ⟨rfl, rfl⟩
    go_wp2_with fail
    refine K2.out.mono ?_
    rw [KD.out]
    rintro e w' ⟨rfl, rfl⟩
    go_wp2_with fail
    refine (copies_any _ _).mono ?_
    rintro e w' ⟨rfl, rfl⟩
    go_wp2_with fail
    refine HC.out.mono ?_
    rintro e w8 ⟨rfl, q, rfl⟩
    have HA3 := Lib.hid (HA.out.below ⟨rfl, rfl, rfl, Nat.le_refl _, fun _ _ => rfl⟩ : At w g _ (w7.drewN q))
    clear c0 c17 hgl HC HA
    go_wp2_with fail
    refine (works_any _).mono ?_
    rintro e w9 ⟨rfl, hb⟩
    have FIN := Lib.hid (HA3.out.below hb).bw
    clear hb
    go_wp2_with fail
    go_ret
    exact ⟨rfl, FIN.out⟩
  by_cases hgt : 32000 < ack
  · clear ht
    have FA := rep_ge h1 h2
    have hlA := HUL.out 32000
    have HF := Lib.hid FA
    clear FA HUL
    go_wp2_with fail
    refine (HU.out 32000 (by omega)).mono ?_
    rintro e w4 ⟨rfl, h3⟩
    have A2 := At.take HV.out hlo HB.out h3
    clear HU HV HB h3
    obtain ⟨v4, hS2, hv2⟩ := A2.ex
    have hgl := hS2.lt
    have c17 := hS2.cnow
    obtain ⟨c0, c1, c2⟩ := hS2.cm
    obtain ⟨iA, nA, mA, k1, k2, k3⟩ := HF.out
    rw [nA] at c17
    rw [mA] at c0 c1 c2
    have hLA : (repA c 32000).log.length ≤ 1000 := by unfold repA; omega
    have K1 := Lib.hid (count_any g _ v4 5 32699 0 1000 w4 hS2 (by omega))
    have K2 := Lib.hid (count_any g _ v4 5 32700 0 1000 w4 hS2 (by omega))
    have K3 := Lib.hid (count_any g _ v4 1 32700 c c w4 hS2 (by omega))
    have HC := Lib.hid (closed_any g _ v4 w4 hS2 (by omega) iA.closed)
    have HA := Lib.hid A2
    have Q1 := Lib.hid k1; have Q2 := Lib.hid k2; have Q3 := Lib.hid k3
    clear hS2 hv2 A2 HF iA nA mA k1 k2 k3 hlA
    go_wp2_with fail
    refine K1.out.mono ?_
    rw [Q1.out]
    rintro e w' ⟨rfl, rfl⟩
    go_wp2_with fail
    refine K2.out.mono ?_
    rw [Q2.out]
    rintro e w' ⟨rfl, rfl⟩
    go_wp2_with fail
    refine K3.out.mono ?_
    rw [Q3.out]
    rintro e w' ⟨rfl, rfl⟩
    go_wp2_with fail
    refine HC.out.mono ?_
    rintro e w8 ⟨rfl, q, rfl⟩
    have HA3 := Lib.hid (HA.out.below ⟨rfl, rfl, rfl, Nat.le_refl _, fun _ _ => rfl⟩ : At w g _ (w4.drewN q))
    clear c0 c1 c2 c17 hgl HC HA
    go_wp2_with fail
    refine (works_any _).mono ?_
    rintro e w9 ⟨rfl, hb⟩
    have FIN := Lib.hid (HA3.out.below hb).bw
    clear hb
    go_wp2_with fail
    go_ret
    exact ⟨rfl, FIN.out⟩
  · obtain rfl : ack = 32000 := by omega
    clear ht hgt
    have FA := rep_ge h1 h2
    have hlA := HUL.out 32000
    have HF := Lib.hid FA
    clear FA HUL
    go_wp2_with fail
    refine (HU.out 32000 (by omega)).mono ?_
    rintro e w4 ⟨rfl, h3⟩
    have A2 := At.take HV.out hlo HB.out h3
    clear HU HV HB h3
    obtain ⟨v4, hS2, hv2⟩ := A2.ex
    have hgl := hS2.lt
    have c17 := hS2.cnow
    obtain ⟨c0, c1, c2⟩ := hS2.cm
    obtain ⟨iA, nA, mA, k1, k2, k3⟩ := HF.out
    rw [nA] at c17
    rw [mA] at c0 c1 c2
    have hLA : (repA c 32000).log.length ≤ 1000 := by unfold repA; omega
    have K1 := Lib.hid (count_any g _ v4 5 32699 0 1000 w4 hS2 (by omega))
    have K2 := Lib.hid (count_any g _ v4 5 32700 0 1000 w4 hS2 (by omega))
    have K3 := Lib.hid (count_any g _ v4 1 32700 c c w4 hS2 (by omega))
    have HC := Lib.hid (closed_any g _ v4 w4 hS2 (by omega) iA.closed)
    have HA := Lib.hid A2
    have Q1 := Lib.hid k1; have Q2 := Lib.hid k2; have Q3 := Lib.hid k3
    clear hS2 hv2 A2 HF iA nA mA k1 k2 k3 hlA
    go_wp2_with fail
    refine K1.out.mono ?_
    rw [Q1.out]
    rintro e w' ⟨rfl, rfl⟩
    go_wp2_with fail
    refine K2.out.mono ?_
    rw [Q2.out]
    rintro e w' ⟨rfl, rfl⟩
    go_wp2_with fail
    refine K3.out.mono ?_
    rw [Q3.out]
    rintro e w' ⟨rfl, rfl⟩
    go_wp2_with fail
    refine HC.out.mono ?_
    rintro e w8 ⟨rfl, q, rfl⟩
    have HA3 := Lib.hid (HA.out.below ⟨rfl, rfl, rfl, Nat.le_refl _, fun _ _ => rfl⟩ : At w g _ (w4.drewN q))
    clear c0 c1 c2 c17 hgl HC HA
    go_wp2_with fail
    refine (works_any _).mono ?_
    rintro e w9 ⟨rfl, hb⟩
    have FIN := Lib.hid (HA3.out.below hb).bw
    clear hb
    go_wp2_with fail
    go_ret
    exact ⟨rfl, FIN.out⟩
end Go.Proofs.Ytgjhnaionalbpaa
