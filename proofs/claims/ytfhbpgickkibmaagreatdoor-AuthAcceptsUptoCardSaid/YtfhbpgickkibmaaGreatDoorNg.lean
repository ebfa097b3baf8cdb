/- Whether a header has credentials for a realm: the plain word, auth's offered, the reference's authorizes. The reference's authorizes; words for headers; the reference 04's Same. Words for headers; the reference 04's Same; light. -/
import Derived.Test.YtfhbpgickkibmaaGreatDoorNd
import Derived.Test.YtfhbpgickkibmaaGreatDoorDf
import Derived.Test.YtfhbpgickkibmaaGreatDoorDl
import Derived.Test.YtfhbpgickkibmaaGreatDoorKc
import Derived.Laws.StructEq
namespace Go.Proofs.YtfhbpgickkibmaaGreatDoor
open Go.RowKit

structure CrOK (q : Cr) : Prop where
  u : By q.u ∧ q.u.length ≤ 4000000
  r : By q.r ∧ q.r.length ≤ 4000000
  n : By q.n ∧ q.n.length ≤ 4000000
  i : By q.i ∧ q.i.length ≤ 4000000
  p : By q.p ∧ q.p.length ≤ 4000000
  c : By q.c ∧ q.c.length ≤ 4000000
  o : By q.o ∧ q.o.length ≤ 4000000
  k : 0 ≤ q.k ∧ q.k ≤ 4294967295
theorem parseCr_ok {xs : List Int} {c : Cr} (hx : By xs) (hl : xs.length ≤ 4000000) (h : parseCr xs = .ok c) : CrOK c := by
  unfold parseCr at h
  split at h
  · cases h
  · rename_i l hf
    have ok := (fieldsL_ok hx hl hf).1
    split at h
    · cases h
    · split at h
      · cases h
      · split at h
        · cases h
        · split at h
          · cases h
          · cases h
            refine ⟨gotF_ok _ ok, gotF_ok _ ok, gotF_ok _ ok, gotF_ok _ ok, gotF_ok _ ok, gotF_ok _ ok, gotF_ok _ ok, ?_⟩
            have h4 := numL_take (unL_by (gotF l NC) 4) 4 (by rw [unL_len]; exact Nat.le_refl _)
            rw [List.take_of_length_le (by rw [unL_len]; exact Nat.le_refl _)] at h4
            have e : (256 : Int) ^ 4 = 4294967296 := by decide
            rw [e] at h4
            exact ⟨h4.1, by show numL _ ≤ _; omega⟩
theorem parseCr_err {xs : List Int} {k : Int} (h : parseCr xs = .error k) : k ≠ 0 := by
  unfold parseCr at h
  split at h
  · rename_i k' hf
    cases h
    exact fieldsL_err hf
  · split at h
    · cases h; decide
    · split at h
      · cases h; decide
      · split at h
        · cases h; decide
        · split at h
          · cases h; decide
          · cases h
def AUTHN : List Int := [65, 117, 116, 104, 111, 114, 105, 122, 97, 116, 105, 111, 110]
/-- The credentials of a header for a realm. -/
def offL (nm vl realm : List Int) : Option Cr := if canonL nm = some AUTHN then (match parseCr vl with | .ok c => if c.r = realm then some c else none | .error _ => none) else none
theorem offL_name {nm vl realm : List Int} (h : canonL nm ≠ some AUTHN) : offL nm vl realm = none := if_neg h
theorem offL_err {nm vl realm : List Int} {k : Int} (h : parseCr vl = .error k) : offL nm vl realm = none := by
  unfold offL
  split
  · rw [h]
  · rfl
theorem offL_realm {nm vl realm : List Int} {c : Cr} (h : parseCr vl = .ok c) (hr : c.r ≠ realm) : offL nm vl realm = none := by
  unfold offL
  split
  · rw [h]; exact if_neg hr
  · rfl
theorem offL_yes {nm vl realm : List Int} {c : Cr} (hn : canonL nm = some AUTHN) (h : parseCr vl = .ok c) (hr : c.r = realm) : offL nm vl realm = some c := by
  unfold offL
  rw [if_pos hn, h]
  exact if_pos hr
theorem offL_some {nm vl realm : List Int} {c : Cr} (h : offL nm vl realm = some c) : canonL nm = some AUTHN ∧ parseCr vl = .ok c ∧ c.r = realm := by
  unfold offL at h
  split at h
  · rename_i hn
    split at h
    · rename_i c' hp
      split at h
      · rename_i hr; cases h; exact ⟨hn, hp, hr⟩
      · cases h
    · cases h
  · cases h
def offV : Option Cr → Value
  | none => .tuple #[.agg #[.string ⟨#[]⟩, .string ⟨#[]⟩, .string ⟨#[]⟩, .string ⟨#[]⟩, .string ⟨#[]⟩, .string ⟨#[]⟩, .string ⟨#[]⟩, .int .i64 0, .bool false], .bool false]
  | some c => .tuple #[.agg (crC c).toArray, .bool true]
theorem toList_beqS {a : List Int} (ha : By a) (s : ByteArray) : ((strOfNums a).toList == s.toList) = (a == byteL s) := by
  have h := toList_beq ha (byteL_by s)
  rwa [str_byteL] at h
theorem authn_beq {x : List Int} (hx : By x) : ((strOfNums x).toList == ([65, 117, 116, 104, 111, 114, 105, 122, 97, 116, 105, 111, 110] : List UInt8)) = (x == AUTHN) := by
  have h := toList_beq hx (show By AUTHN by unfold By; decide)
  rwa [show (strOfNums AUTHN).toList = ([65, 117, 116, 104, 111, 114, 105, 122, 97, 116, 105, 111, 110] : List UInt8) by rw [ByteArray.toList_eq]; rfl] at h
set_option maxRecDepth 100000 in
set_option maxHeartbeats 1000000 in
theorem offered_any (nm vl rs : ByteArray) (w : World) (h1 : nm.size ≤ 4000000) (h2 : vl.size ≤ 4000000) (hS : SC w) :
    Calls Tryz.prog 57 #[.agg #[.string nm, .string vl], .string rs] w fun e w' => e = .returned (offV (offL (byteL nm) (byteL vl) (byteL rs))) ∧ Below w.heap.size w w' := by
  have ON := Lib.hid (fun h => offL_name (nm := byteL nm) (vl := byteL vl) (realm := byteL rs) h)
  have OE := Lib.hid (fun k h => offL_err (nm := byteL nm) (vl := byteL vl) (realm := byteL rs) (k := k) h)
  have OR := Lib.hid (fun c h h2 => offL_realm (nm := byteL nm) (vl := byteL vl) (realm := byteL rs) (c := c) h h2)
  have OY := Lib.hid (fun c h h2 h3 => offL_yes (nm := byteL nm) (vl := byteL vl) (realm := byteL rs) (c := c) h h2 h3)
  have PK := Lib.hid (fun c h => parseCr_ok (byteL_by vl) (by rw [byteL_len]; exact h2) (c := c) h)
  have PE := Lib.hid (fun k h => parseCr_err (xs := byteL vl) (k := k) h)
  have CB := Lib.hid (fun x h => canonL_by (byteL_by nm) (x := x) h)
  have RL := Lib.hid (fun (a : List Int) (h : By a) => toList_beqS h rs)
  have HS := Lib.hid hS
  clear hS
  have CA := Lib.hid (fun w h => nmcanon_any nm w h1 h)
  have PA := Lib.hid (fun w => parsecr_any vl w h2)
  generalize offL (byteL nm) (byteL vl) (byteL rs) = O at *
  generalize canonL (byteL nm) = X at *
  generalize parseCr (byteL vl) = P at *
  generalize byteL rs = RR at *
  have RH := Lib.hid (show Row ((w.alloc (.cells #[.string nm, .string vl] 69)).alloc (.cells Z9.toArray 23)) w.heap.size 69 [.string nm, .string vl] from (Row.new w 69 [.string nm, .string vl]).alloc _)
  have RZ := Lib.hid (show Row ((w.alloc (.cells #[.string nm, .string vl] 69)).alloc (.cells Z9.toArray 23)) (w.heap.size + 1) 23 Z9 by
    have h := Row.new (w.alloc (.cells #[.string nm, .string vl] 69)) 23 Z9
    rwa [World.size_alloc] at h)
  have B0 := Lib.hid (show Below w.heap.size w ((w.alloc (.cells #[.string nm, .string vl] 69)).alloc (.cells Z9.toArray 23)) from ((Below.refl _ _).alloc (Nat.le_refl _) _).alloc (by simp) _)
  have c0 : ((w.alloc (.cells #[.string nm, .string vl] 69)).alloc (.cells Z9.toArray 23)).cell? ⟨w.heap.size, 0, none⟩ = some (.string nm) := RH.out.cell 0
  go_enter Tryz.func57, Tryz.ntmps57
  go_wp2_with fail
  generalize (w.alloc (.cells #[.string nm, .string vl] 69)).alloc (.cells Z9.toArray 23) = W at *
  refine (CA.out _ (HS.out.below B0.out)).mono ?_
  rintro e w1 ⟨rfl, hb1⟩
  have RH1 := Lib.hid (RH.out.below hb1)
  have RZ1 := Lib.hid (RZ.out.below hb1)
  have B1 := Lib.hid (bthen B0.out hb1)
  clear hb1 RH RZ B0 c0
  cases X with
  | none =>
    have E := Lib.hid (ON.out (by intro h; cases h))
    rw [show canonV none = .tuple #[.string ⟨#[]⟩, .int .u8 5] from rfl]
    go_wp2_with (with_reducible refine wpList_storeR rfl 23 (.tmp 4) (.tmp 22) rfl RZ1.out Z9 rfl rfl (lenL9 _ _ _ _ _ _ _ _ _ _ _ _ _ _ _ _ _ _) (sizeL9 _ _ _ _ _ _ _ _ _) (p9_one _ _ _ _ _ _ _ _ _) B1.out (Nat.le_succ _) ?_)
    intro w9 R9 B9 _
    go_wp2_with fail
    exact bodyPost_ret (results_ct rfl _ _ _ (w.heap.size + 1) Z9 _ rfl R9.out.range Tryz.underlying23 rfl size9) rfl ⟨by rw [E.out]; rfl, B9.out⟩
  | some x =>
    rw [show canonV (some x) = .tuple #[.string (strOfNums x), .int .u8 0] from rfl]
    have xb := CB.out x rfl
    have QA := authn_beq xb
    clear xb
    cases hx : (x == AUTHN) with
    | false =>
      rw [hx] at QA
      have E := Lib.hid (ON.out (by intro h; cases h; rw [beq_self_eq_true] at hx; cases hx))
      clear hx
      go_wp2_with (with_reducible refine wpList_storeR rfl 23 (.tmp 4) (.tmp 22) rfl RZ1.out Z9 rfl rfl (lenL9 _ _ _ _ _ _ _ _ _ _ _ _ _ _ _ _ _ _) (sizeL9 _ _ _ _ _ _ _ _ _) (p9_one _ _ _ _ _ _ _ _ _) B1.out (Nat.le_succ _) ?_)
      intro w9 R9 B9 _
      go_wp2_with fail
      exact bodyPost_ret (results_ct rfl _ _ _ (w.heap.size + 1) Z9 _ rfl R9.out.range Tryz.underlying23 rfl size9) rfl ⟨by rw [E.out]; rfl, B9.out⟩
    | true =>
      rw [hx] at QA
      have NM := Lib.hid (show some x = some AUTHN by rw [beq_iff_eq.1 hx])
      clear hx
      have c1 : w1.cell? ⟨w.heap.size, 1, none⟩ = some (.string vl) := RH1.out.cell 1
      go_wp2_with fail
      clear QA c1
      refine (PA.out _).mono ?_
      rintro e w2 ⟨rfl, hb2⟩
      have RZ2 := Lib.hid (RZ1.out.below hb2)
      have B2 := Lib.hid (bthen B1.out hb2)
      clear hb2 RH1 RZ1 B1
      have R0 := Lib.hid (Row.new w2 23 Z9)
      have BA := Lib.hid (bthen B2.out ((Below.refl w2.heap.size w2).alloc (Nat.le_refl _) (.cells Z9.toArray 23)))
      have RZ3 := Lib.hid (RZ2.out.alloc (.cells Z9.toArray 23))
      have lz : w.heap.size + 1 < w2.heap.size := RZ2.out.lt
      have LZ := Lib.hid lz
      clear lz
      cases P with
      | error k =>
        have E := Lib.hid (OE.out k rfl)
        have hk : (k != 0) = true := by simpa using PE.out k rfl
        rw [show crV (.error k) = .tuple #[.agg #[.string ⟨#[]⟩, .string ⟨#[]⟩, .string ⟨#[]⟩, .string ⟨#[]⟩, .string ⟨#[]⟩, .string ⟨#[]⟩, .string ⟨#[]⟩, .int .i64 0, .bool false], .int .u8 k] from rfl]
        go_wp2_with (with_reducible refine wpList_storeR rfl 23 (.tmp 8) (.tmp 27) rfl R0.out Z9 rfl rfl (lenL9 _ _ _ _ _ _ _ _ _ _ _ _ _ _ _ _ _ _) (sizeL9 _ _ _ _ _ _ _ _ _) (p9_one _ _ _ _ _ _ _ _ _) BA.out (Nat.le_of_lt (Nat.lt_of_succ_lt LZ.out)) ?_)
        intro w3 R3 B3 HH
        have RZ4 := Lib.hid (RZ3.out.heap (HH.out.2 _ (Nat.ne_of_lt LZ.out)))
        go_wp2_with (with_reducible refine wpList_storeR rfl 23 (.tmp 4) (.tmp 37) rfl RZ4.out Z9 rfl rfl (lenL9 _ _ _ _ _ _ _ _ _ _ _ _ _ _ _ _ _ _) (sizeL9 _ _ _ _ _ _ _ _ _) (p9_one _ _ _ _ _ _ _ _ _) B3.out (Nat.le_succ _) ?_)
        intro w9 R9 B9 _
        go_wp2_with fail
        exact bodyPost_ret (results_ct rfl _ _ _ (w.heap.size + 1) Z9 _ rfl R9.out.range Tryz.underlying23 rfl size9) rfl ⟨by rw [E.out]; rfl, B9.out⟩
      | ok c =>
        rw [show crV (.ok c) = .tuple #[.agg (crC c).toArray, .int .u8 0] from rfl]
        have QR := RL.out c.r (PK.out c rfl).r.1
        have HR := Lib.hid (fun h => OR.out c rfl h)
        have HY := Lib.hid (fun h => OY.out c NM.out rfl h)
        clear OR OY PK OE PE
        unfold crC at *
        have CV := Lib.hid (show offV (some c) = .tuple #[.agg #[.string (strOfNums c.u), .string (strOfNums c.r), .string (strOfNums c.n), .string (strOfNums c.i), .string (strOfNums c.p), .string (strOfNums c.c), .string (strOfNums c.o), .int .i64 c.k, .bool c.g], .bool true] from rfl)
        generalize hr : c.r = cr at *
        generalize strOfNums c.u = a0 at *
        generalize strOfNums c.n = a2 at *
        generalize strOfNums c.i = a3 at *
        generalize strOfNums c.p = a4 at *
        generalize strOfNums c.c = a5 at *
        generalize strOfNums c.o = a6 at *
        generalize c.k = a7 at *
        generalize c.g = a8 at *
        clear hr
        generalize strOfNums cr = a1 at *
        go_wp2_with (with_reducible refine wpList_storeR rfl 23 (.tmp 8) (.tmp 27) rfl R0.out [.string a0, .string a1, .string a2, .string a3, .string a4, .string a5, .string a6, .int .i64 a7, .bool a8] rfl rfl (lenL9 _ _ _ _ _ _ _ _ _ _ _ _ _ _ _ _ _ _) (sizeL9 _ _ _ _ _ _ _ _ _) (p9_one _ _ _ _ _ _ _ _ _) BA.out (Nat.le_of_lt (Nat.lt_of_succ_lt LZ.out)) ?_)
        intro w3 R3 B3 HH
        have RZ4 := Lib.hid (RZ3.out.heap (HH.out.2 _ (Nat.ne_of_lt LZ.out)))
        have c1 : w3.cell? ⟨w2.heap.size, 1, none⟩ = some (.string a1) := R3.out.cell 1
        cases hq : (cr == RR) with
        | false =>
          rw [hq] at QR
          have E := Lib.hid (HR.out (by simpa using hq))
          clear hq
          go_wp2_with (with_reducible refine wpList_storeR rfl 23 (.tmp 4) (.tmp 37) rfl RZ4.out Z9 rfl rfl (lenL9 _ _ _ _ _ _ _ _ _ _ _ _ _ _ _ _ _ _) (sizeL9 _ _ _ _ _ _ _ _ _) (p9_one _ _ _ _ _ _ _ _ _) B3.out (Nat.le_succ _) ?_)
          intro w9 R9 B9 _
          go_wp2_with fail
          exact bodyPost_ret (results_ct rfl _ _ _ (w.heap.size + 1) Z9 _ rfl R9.out.range Tryz.underlying23 rfl size9) rfl ⟨by rw [E.out]; rfl, B9.out⟩
        | true =>
          rw [hq] at QR
          have E := Lib.hid (HY.out (by simpa using hq))
          clear hq
          go_wp2_with (first
            | (with_reducible refine wpList_loadR rfl 23 (.tmp 8) rfl R3.out rfl Tryz.underlying23 rfl (sizeL9 _ _ _ _ _ _ _ _ _) ?_)
            | (with_reducible refine wpList_storeR rfl 23 (.tmp 4) (.tmp 38) rfl RZ4.out [.string a0, .string a1, .string a2, .string a3, .string a4, .string a5, .string a6, .int .i64 a7, .bool a8] rfl rfl (lenL9 _ _ _ _ _ _ _ _ _ _ _ _ _ _ _ _ _ _) (sizeL9 _ _ _ _ _ _ _ _ _) (p9_one _ _ _ _ _ _ _ _ _) B3.out (Nat.le_succ _) ?_))
          intro w9 R9 B9 _
          go_wp2_with fail
          exact bodyPost_ret (results_ct rfl _ _ _ (w.heap.size + 1) [.string a0, .string a1, .string a2, .string a3, .string a4, .string a5, .string a6, .int .i64 a7, .bool a8] _ rfl R9.out.range Tryz.underlying23 rfl size9) rfl ⟨by rw [E.out, CV.out]; rfl, B9.out⟩
end Go.Proofs.YtfhbpgickkibmaaGreatDoor
namespace Go.Proofs.YtfhbpgickkibmaaGreatDoor
open Go.RowKit

/-- What authorizes hands back. -/
def AutP (O : Option Cr) (w : World) (e : Ending) (w' : World) : Prop := Below w.heap.size w w' ∧ ∃ (a0 a1 a2 a3 a4 a5 a6 : ByteArray) (a7 : Int) (a8 : Bool), e = .returned (.tuple #[.agg #[.string a0, .string a1, .string a2, .string a3, .string a4, .string a5, .string a6, .int .i64 a7, .bool a8], .bool O.isSome]) ∧
  ∀ c, O = some c → [.string a0, .string a1, .string a2, .string a3, .string a4, .string a5, .string a6, .int .i64 a7, .bool a8] = crC c
theorem AutP.no {O : Option Cr} {w w' : World} {a0 a1 a2 a3 a4 a5 a6 : ByteArray} {a7 : Int} {a8 : Bool} (h : O = none) (hb : Below w.heap.size w w') : AutP O w (.returned (.tuple #[.agg #[.string a0, .string a1, .string a2, .string a3, .string a4, .string a5, .string a6, .int .i64 a7, .bool a8], .bool false])) w' :=
  ⟨hb, _, _, _, _, _, _, _, _, _, by rw [h]; rfl, fun c hc => by rw [h] at hc; cases hc⟩
theorem AutP.yes {O : Option Cr} {w w' : World} {c : Cr} {a0 a1 a2 a3 a4 a5 a6 : ByteArray} {a7 : Int} {a8 : Bool} (h : O = some c) (hc : [Value.string a0, .string a1, .string a2, .string a3, .string a4, .string a5, .string a6, .int .i64 a7, .bool a8] = crC c) (hb : Below w.heap.size w w') :
    AutP O w (.returned (.tuple #[.agg #[.string a0, .string a1, .string a2, .string a3, .string a4, .string a5, .string a6, .int .i64 a7, .bool a8], .bool true])) w' :=
  ⟨hb, _, _, _, _, _, _, _, _, _, by rw [h]; rfl, fun c' hc' => by rw [h] at hc'; cases hc'; exact hc⟩
end Go.Proofs.YtfhbpgickkibmaaGreatDoor
namespace Go.Proofs.YtfhbpgickkibmaaGreatDoor
open Go.RowKit

def hdC (h : ByteArray × ByteArray) : List Value := [.string h.1, .string h.2]
def hds (l : List (ByteArray × ByteArray)) : List Value := l.flatMap hdC
theorem hds_snoc (l : List (ByteArray × ByteArray)) (h : ByteArray × ByteArray) : hds (l ++ [h]) = hds l ++ hdC h := by simp [hds]
theorem hds_len (l : List (ByteArray × ByteArray)) : (hds l).length = l.length * 2 := by
  induction l with
  | nil => rfl
  | cons p l ih => rw [show hds (p :: l) = hdC p ++ hds l from rfl, List.length_append, ih]; simp [hdC]; omega
theorem hds_at {l : List (ByteArray × ByteArray)} {k : Nat} {p : ByteArray × ByteArray} (h : l[k]? = some p) : ∀ j u, [Value.string p.1, .string p.2][j]? = some u → (hds l)[k * 2 + j]? = some u := fun j u hu => by
  have hj : j < 2 := (List.getElem?_eq_some_iff.1 hu).1
  rw [← hu]
  exact flat_at hdC 2 (fun _ => rfl) l k j p h hj
theorem infoH : ∃ i, Tryz.prog.info? 69 = some i ∧ i.zero = some (.agg #[.string ⟨#[]⟩, .string ⟨#[]⟩]) ∧ i.size = 2 ∧ i.bytes = 32 := by
  have h : (Tryz.prog.info? 69).map (fun i => (i.size, i.zero, i.bytes)) = some (2, some (.agg #[.string ⟨#[]⟩, .string ⟨#[]⟩]), 32) := by kernel_rfl
  rw [Option.map_eq_some_iff] at h
  obtain ⟨i, hi, he⟩ := h
  injection he with h1 h2
  injection h2 with h2 h3
  exact ⟨i, hi, h2, h1, h3⟩
theorem sizeH (a b : Value) : (Tryz.prog.info? 69).map (·.size) = some [a, b].length := by
  have h : (Tryz.prog.info? 69).map (·.size) = some 2 := by kernel_rfl
  exact h
theorem h2_one (a b : ByteArray) : ∀ u ∈ [Value.string a, .string b], u.oneCell' = true := fun u hu => by
  simp at hu
  rcases hu with rfl | rfl <;> rfl
abbrev HDX (w : World) (v : Value) (l : List (ByteArray × ByteArray)) (wr : World) : Prop := VX 69 2 w v l.length (hds l) wr
theorem wpList_pushH {w wr : World} {ops : Array Oper} {rest : List Oper} {o : Oper} {a : Act} {Q : Exit → Act → World → Prop} (hgd : o.guard = none) (s x : Operand)
    (ho : o.op = .call { callee := .builtin .append, args := #[s, x], argTypes := #[39, 39] }) (v : Value) (l : List (ByteArray × ByteArray)) (hs : a.eval s = v) (H : HDX w v l wr) (p q : ByteArray) (hx : a.eval x = .slice (some ⟨wr.heap.size, 0, none⟩) 1 1) (hb : l.length + 1 ≤ 16777216)
    (h : ∀ v' w' L, Hid (L = l ++ [(p, q)]) → L.length = l.length + 1 → Hid (HDX w v' L w') → wpList Tryz.prog ops Q rest (a.put o.dst v') w') : wpList Tryz.prog ops Q (o :: rest) a (wr.alloc (.cells #[.string p, .string q] 69)) :=
  wpList_pushT hgd s x ho Tryz.underlying39 infoH rfl (by omega) (by omega) v l.length (hds l) hs H [.string p, .string q] rfl (h2_one p q) hx hb fun v' w' h1 => h v' w' (l ++ [(p, q)]) (Lib.hid rfl) (by simp) (Lib.hid (by
      have := h1.out
      unfold HDX
      rw [hds_snoc, List.length_append]
      exact this))
theorem quiet_range {P : Program} {o : Oper} {a : Act} {w : World} {K : Act → Prop} (ty : TypeId) (x : Operand) (ho : o.op = .load ty x) (b off : Nat) (hx : a.eval x = .pointer (some ⟨b, off, none⟩)) (cs : List Value) (d : TypeDesc) (hr : w.rangeAt b off cs) (hb : b < w.heap.size)
    (hu : P.underlying ty = some d) (hd : d.isRow = true) (hi : (P.info? ty).map (·.size) = some cs.length) (h : K (a.put o.dst (.agg cs.toArray))) : o.quiet P a (fun w' => ∃ y : BW w, w' = y.w) K :=
  ⟨.agg cs.toArray, fun w' ⟨y, hy⟩ => by
    subst hy
    unfold Oper.quietAt execOp
    simp only [ho, hx, Instr.loadAt, Instr.sureAddr, Sem.run_bind, Sem.run_pure, Result.andThen_ok, run_loadVar_mid y.w b off ty cs d (fun j v hv => (y.h.cell (p := ⟨b, off + j, none⟩) hb).trans (hr j v hv)) hu hd hi]
    exact ⟨rfl, rfl⟩, h⟩
theorem guardH (x y : Operand) (xs ys : Array Value) (w : World) : (eqGuard .neq 69 x y (.agg xs) (.agg ys)).run Tryz.prog w = .ok () w := run_eqGuard_agg w .neq _ x y xs ys (by kernel_rfl)
theorem sameH (a b : ByteArray) (w : World) : (Op.equalIn 10000 69 (.agg #[.string a, .string b]) (.agg #[.string a, .string b])).run Tryz.prog w = .ok true w := by
  have u9 := Tryz.underlying9
  have a9 := Tryz.isAgg9
  have hS : Tryz.prog.underlying 69 = some (.struct (Tryz.prog.fieldsOf 69)) := by kernel_rfl
  have hp : Tryz.prog.stoodInHeld 69 = false := by kernel_rfl
  rw [show (10000 : Nat) = 9999 + 1 from rfl, run_equalIn_agg w 9999 69 _ _ hS hp]
  simp only [Program.fieldsOf, Tryz.underlying69]
  go_simp
theorem Row.six {w : World} {b : Nat} {T : TypeId} {v0 v1 v2 v3 v4 v5 : Value} (h : Row w b T [v0, v1, v2, v3, v4, v5]) : w.cell? ⟨b, 0, none⟩ = some v0 ∧ w.cell? ⟨b, 1, none⟩ = some v1 ∧ w.cell? ⟨b, 2, none⟩ = some v2 ∧ w.cell? ⟨b, 3, none⟩ = some v3 ∧ w.cell? ⟨b, 4, none⟩ = some v4 ∧ w.cell? ⟨b, 5, none⟩ = some v5 :=
  ⟨h.cell 0, h.cell 1, h.cell 2, h.cell 3, h.cell 4, h.cell 5⟩
end Go.Proofs.YtfhbpgickkibmaaGreatDoor
