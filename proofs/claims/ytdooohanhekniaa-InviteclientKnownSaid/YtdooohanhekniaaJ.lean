/- Region 9 of inviteclient.table, whole. -/
import Derived.Test.YtdooohanhekniaaH
namespace Go.Proofs.Ytdooohanhekniaa
open Go.RowKit

section
variable {lo : Nat} {s wt c k ic t d : Int} {a0 a : Act} {w0 w : World} {L : Nat → Bool} {o : Oper} {Q : Exit → Act → World → Prop}

theorem tStep (T : TStart lo s wt c k ic t d a0 w0) (hI : DagI (tOps Try.f31) (tA s wt c ic d) (tG lo w0 s wt c ic d) a0 L a w) : ∀ (i : Nat), (tOps Try.f31)[i]? = some o → L i = false → (∀ e ∈ o.after, Region.binds .any e = true → L e.on = true) →
    wpOp Try.prog (tOps Try.f31) Q i (StepOk (tA s wt c ic d) (tG lo w0 s wt c ic d) L i o a w) a w
  | 0, ho, hL, hdep => tS0 hI T ho hL hdep
  | 1, ho, hL, hdep => tS1 hI T ho hL hdep
  | 2, ho, hL, hdep => tS2 hI T ho hL hdep
  | 3, ho, hL, hdep => tS3 hI T ho hL hdep
  | 4, ho, hL, hdep => tS4 hI T ho hL hdep
  | 5, ho, hL, hdep => tS5 hI T ho hL hdep
  | 6, ho, hL, hdep => tS6 hI T ho hL hdep
  | 7, ho, hL, hdep => tS7 hI T ho hL hdep
  | 8, ho, hL, hdep => tS8 hI T ho hL hdep
  | 9, ho, hL, hdep => tS9 hI T ho hL hdep
  | 10, ho, hL, hdep => tS10 hI T ho hL hdep
  | 11, ho, hL, hdep => tS11 hI T ho hL hdep
  | 12, ho, hL, hdep => tS12 hI T ho hL hdep
  | 13, ho, hL, hdep => tS13 hI T ho hL hdep
  | 14, ho, hL, hdep => tS14 hI T ho hL hdep
  | 15, ho, hL, hdep => tS15 hI T ho hL hdep
  | 16, ho, hL, hdep => tS16 hI T ho hL hdep
  | 17, ho, hL, hdep => tS17 hI T ho hL hdep
  | 18, ho, hL, hdep => tS18 hI T ho hL hdep
  | 19, ho, hL, hdep => tS19 hI T ho hL hdep
  | 20, ho, hL, hdep => tS20 hI T ho hL hdep
  | 21, ho, hL, hdep => tS21 hI T ho hL hdep
  | 22, ho, hL, hdep => tS22 hI T ho hL hdep
  | 23, ho, hL, hdep => tS23 hI T ho hL hdep
  | 24, ho, hL, hdep => tS24 hI T ho hL hdep
  | 25, ho, hL, hdep => tS25 hI T ho hL hdep
  | 26, ho, hL, hdep => tS26 hI T ho hL hdep
  | 27, ho, hL, hdep => tS27 hI T ho hL hdep
  | 28, ho, hL, hdep => tS28 hI T ho hL hdep
  | 29, ho, hL, hdep => tS29 hI T ho hL hdep
  | 30, ho, hL, hdep => tS30 hI T ho hL hdep
  | 31, ho, hL, hdep => tS31 hI T ho hL hdep
  | 32, ho, hL, hdep => tS32 hI T ho hL hdep
  | 33, ho, hL, hdep => tS33 hI T ho hL hdep
  | 34, ho, hL, hdep => tS34 hI T ho hL hdep
  | 35, ho, hL, hdep => tS35 hI T ho hL hdep
  | 36, ho, hL, hdep => tS36 hI T ho hL hdep
  | 37, ho, hL, hdep => tS37 hI T ho hL hdep
  | 38, ho, hL, hdep => tS38 hI T ho hL hdep
  | 39, ho, hL, hdep => tS39 hI T ho hL hdep
  | 40, ho, hL, hdep => tS40 hI T ho hL hdep
  | 41, ho, hL, hdep => tS41 hI T ho hL hdep
  | 42, ho, hL, hdep => tS42 hI T ho hL hdep
  | 43, ho, hL, hdep => tS43 hI T ho hL hdep
  | 44, ho, hL, hdep => tS44 hI T ho hL hdep
  | 45, ho, hL, hdep => tS45 hI T ho hL hdep
  | 46, ho, hL, hdep => tS46 hI T ho hL hdep
  | 47, ho, hL, hdep => tS47 hI T ho hL hdep
  | 48, ho, hL, hdep => tS48 hI T ho hL hdep
  | 49, ho, hL, hdep => tS49 hI T ho hL hdep
  | 50, ho, hL, hdep => tS50 hI T ho hL hdep
  | 51, ho, hL, hdep => tS51 hI T ho hL hdep
  | 52, ho, hL, hdep => tS52 hI T ho hL hdep
  | 53, ho, hL, hdep => tS53 hI T ho hL hdep
  | 54, ho, hL, hdep => tS54 hI T ho hL hdep
  | 55, ho, hL, hdep => tS55 hI T ho hL hdep
  | 56, ho, hL, hdep => tS56 hI T ho hL hdep
  | 57, ho, hL, hdep => tS57 hI T ho hL hdep
  | 58, ho, hL, hdep => tS58 hI T ho hL hdep
  | 59, ho, hL, hdep => tS59 hI T ho hL hdep
  | 60, ho, hL, hdep => tS60 hI T ho hL hdep
  | 61, ho, hL, hdep => tS61 hI T ho hL hdep
  | 62, ho, hL, hdep => tS62 hI T ho hL hdep
  | 63, ho, hL, hdep => tS63 hI T ho hL hdep
  | 64, ho, hL, hdep => tS64 hI T ho hL hdep
  | i + 65, ho, _, _ => by
    rw [Array.getElem?_eq_none (by rw [tSize]; omega)] at ho
    cases ho

theorem tReg (hm : Try.prog.follows .mixedOrders = true) {ops : Array Oper} (hops : ops = tOps Try.f31) (T : TStart lo s wt c k ic t d a0 w)
    (hend : ∀ (a' : Act) (w' : World) (r : Nat), Fr (tOps Try.f31) a0 a' → a'.tmps[13]?.getD undef = .map (some r) → lo ≤ r → TabSet w' r ((tRows s wt c ic d).map (·.2)) → Kept w w' → Below lo w w' → Q .normal a' w') :
    (Code.region 9 ops true).wp Try.prog Q a0 w := by
  subst hops
  refine region_dag hm tAhead (tA s wt c ic d) (tG lo w s wt c ic d) (by rw [T.size]; exact tSsa) ?_ (fun L a' w' i o hI ho hL hdep => tStep T hI i ho hL hdep) ?_
  · refine ⟨Kept.refl w, Below.drew (Below.refl _ _), fun _ => ?_, fun h => absurd h (by simp), fun h => absurd h (by simp), fun h => absurd h (by simp)⟩
    simp [insd]
  · intro L a' w' hfr _ hall hG
    have hL : ∀ i, i < 65 → L i = true := fun i hi => hall i (by rw [tSize]; exact hi)
    obtain ⟨r, h33, hr, ht⟩ := hG.map (hL 0 (by omega))
    have h13 := (hG.at13 (hL 64 (by omega))).2
    rw [h33, Array.getD_eq_getD_getElem?] at h13
    refine hend a' w' r hfr h13 hr (ht.same fun x => ?_) hG.kept hG.below
    have e : insd (tRows s wt c ic d) L = (tRows s wt c ic d).map (·.2) := by
      unfold insd
      congr 1
      refine List.filter_eq_self.2 fun q hq => hL q.1 ?_
      simp only [tRows, List.mem_cons, List.not_mem_nil, or_false] at hq
      rcases hq with rfl | rfl | rfl | rfl | rfl | rfl | rfl | rfl <;> simp
    rw [e]
end

theorem litN (t : Array Value) (n : Nat) (h : t.size = n) : t = ((List.range n).map fun i => t[i]?.getD undef).toArray := by
  subst h
  refine Array.ext (by simp) fun i h1 h2 => ?_
  simp [h1]

theorem lit128 (t : Array Value) (h : t.size = 128) : t = #[t[0]?.getD undef, t[1]?.getD undef, t[2]?.getD undef, t[3]?.getD undef, t[4]?.getD undef, t[5]?.getD undef, t[6]?.getD undef, t[7]?.getD undef, t[8]?.getD undef, t[9]?.getD undef, t[10]?.getD undef, t[11]?.getD undef, t[12]?.getD undef, t[13]?.getD undef, t[14]?.getD undef, t[15]?.getD undef, t[16]?.getD undef, t[17]?.getD undef, t[18]?.getD undef, t[19]?.getD undef, t[20]?.getD undef, t[21]?.getD undef, t[22]?.getD undef, t[23]?.getD undef, t[24]?.getD undef, t[25]?.getD undef, t[26]?.getD undef, t[27]?.getD undef, t[28]?.getD undef, t[29]?.getD undef, t[30]?.getD undef, t[31]?.getD undef, t[32]?.getD undef, t[33]?.getD undef, t[34]?.getD undef, t[35]?.getD undef, t[36]?.getD undef, t[37]?.getD undef, t[38]?.getD undef, t[39]?.getD undef, t[40]?.getD undef, t[41]?.getD undef, t[42]?.getD undef, t[43]?.getD undef, t[44]?.getD undef, t[45]?.getD undef, t[46]?.getD undef, t[47]?.getD undef, t[48]?.getD undef, t[49]?.getD undef, t[50]?.getD undef, t[51]?.getD undef, t[52]?.getD undef, t[53]?.getD undef, t[54]?.getD undef, t[55]?.getD undef, t[56]?.getD undef, t[57]?.getD undef, t[58]?.getD undef, t[59]?.getD undef, t[60]?.getD undef, t[61]?.getD undef, t[62]?.getD undef, t[63]?.getD undef, t[64]?.getD undef, t[65]?.getD undef, t[66]?.getD undef, t[67]?.getD undef, t[68]?.getD undef, t[69]?.getD undef, t[70]?.getD undef, t[71]?.getD undef, t[72]?.getD undef, t[73]?.getD undef, t[74]?.getD undef, t[75]?.getD undef, t[76]?.getD undef, t[77]?.getD undef, t[78]?.getD undef, t[79]?.getD undef, t[80]?.getD undef, t[81]?.getD undef, t[82]?.getD undef, t[83]?.getD undef, t[84]?.getD undef, t[85]?.getD undef, t[86]?.getD undef, t[87]?.getD undef, t[88]?.getD undef, t[89]?.getD undef, t[90]?.getD undef, t[91]?.getD undef, t[92]?.getD undef, t[93]?.getD undef, t[94]?.getD undef, t[95]?.getD undef, t[96]?.getD undef, t[97]?.getD undef, t[98]?.getD undef, t[99]?.getD undef, t[100]?.getD undef, t[101]?.getD undef, t[102]?.getD undef, t[103]?.getD undef, t[104]?.getD undef, t[105]?.getD undef, t[106]?.getD undef, t[107]?.getD undef, t[108]?.getD undef, t[109]?.getD undef, t[110]?.getD undef, t[111]?.getD undef, t[112]?.getD undef, t[113]?.getD undef, t[114]?.getD undef, t[115]?.getD undef, t[116]?.getD undef, t[117]?.getD undef, t[118]?.getD undef, t[119]?.getD undef, t[120]?.getD undef, t[121]?.getD undef, t[122]?.getD undef, t[123]?.getD undef, t[124]?.getD undef, t[125]?.getD undef, t[126]?.getD undef, t[127]?.getD undef] := (litN t 128 h).trans (by kernel_rfl)
end Go.Proofs.Ytdooohanhekniaa
