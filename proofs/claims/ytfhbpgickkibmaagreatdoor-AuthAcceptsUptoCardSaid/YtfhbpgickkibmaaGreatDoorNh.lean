/- slices.Clone of bytes; what Answer answers; auth's Answer. -/
import Derived.Test.YtfhbpgickkibmaaGreatDoorNg
import Derived.Test.YtfhbpgickkibmaaGreatDoorKc
import Derived.Test.YtfhbpgickkibmaaGreatDoorDn
namespace Go.Proofs.YtfhbpgickkibmaaGreatDoor
open Go.RowKit

set_option maxRecDepth 100000 in
theorem cloneB_any (B : Option Addr) (m d : Nat) (bs : List Int) (w : World) (hm : bs.length = m) (hB : Bs w w.heap.size B bs) (hnil : B = none → m = 0 ∧ d = 0) (hM : m ≤ 16000000) :
    Calls Tryz.prog 58 #[.slice B m d] w fun e w' => (∃ B' d', e = .returned (.slice B' m d') ∧ Bs w' w'.heap.size B' bs ∧ ∀ ad, B' = some ad → w.heap.size ≤ ad.block) ∧ Below w.heap.size w w' := by
  have HM := Lib.hid hm; have HB := Lib.hid hB
  cases B with
  | none =>
    obtain ⟨rfl, rfl⟩ := hnil rfl
    have e1 := fun w => Lib.run_eql_slice_nil (P := Tryz.prog) w 31 5 none 0 0 0 0 Tryz.underlying31
    clear hm hB hnil
    go_enter Tryz.func58, Tryz.ntmps58
    go_wp2_with fail
    go_ret
    exact ⟨⟨none, 0, rfl, HB.out, fun ad h => by cases h⟩, Below.refl _ _⟩
  | some ad =>
    have e1 := fun w => Lib.run_eql_slice_nil (P := Tryz.prog) w 31 5 (some ad) m d 0 0 Tryz.underlying31
    have V0 := Lib.hid (VX.new' w 5 0 [] rfl (by decide))
    have HB1 := Lib.hid ((hB.below V0.out.bw).up V0.out.bw.size)
    have OW := Lib.hid (show World.ownsRow (w.alloc (.cells #[] 5)) w.heap.size 5 1 (.slice (some ⟨w.heap.size, 0, none⟩) 0 0) 0 (U8 []) from V0.out.o)
    clear hm hB hnil
    go_enter Tryz.func58, Tryz.ntmps58
    go_wp2_with (with_reducible refine wpList_append_bytes rfl (.tmp 5) (.tmp 6) rfl w.heap.size (.slice (some ⟨w.heap.size, 0, none⟩) 0 0) 0 [] rfl OW.out (some ad) m d bs rfl HB1.out HM.out no_nil (by omega) V0.out.bw.size ?_)
    intro v' w' h1 h2
    have h3 : w'.ownsRow w.heap.size 5 1 v' m (U8 bs) := by simpa using h1
    obtain ⟨A', c', hv, _, _, hb⟩ := owns_slice h3
    have hg : ∀ ad, A' = some ad → w.heap.size ≤ ad.block := fun ad e => by
      subst e
      rcases h3.2 with ⟨e2, _⟩ | ⟨g, cap, cur, e2, hbg, _⟩
      · rw [hv] at e2; cases e2
      · rw [hv] at e2; cases e2; exact hbg
    subst hv
    have RB := Lib.hid hb; have RG := Lib.hid hg
    have BE := Lib.hid (V0.out.bw.grown h2 V0.out.bw.size (fun k hk => by simp [Value.ownBlock] at hk; omega))
    clear h1 h2 h3 hb hg
    go_wp2_with fail
    go_ret
    exact ⟨⟨A', c', rfl, RB.out, RG.out⟩, BE.out⟩
theorem Bs.put {w : World} {B : Nat} {A : Option Addr} {xs : List Int} (h : Bs w B A xs) {p : Addr} (hp : ∀ ad, A = some ad → ad.block ≠ p.block) (u : Value) : Bs (w.setCell p u) B A xs := fun hn => by
  obtain ⟨ad, e, hb, hc⟩ := h hn
  refine ⟨ad, e, hb, fun j x hx => ?_⟩
  rw [World.cell?_setCell_other _ _ _ _ (by intro e2; apply hp ad e; rw [← add_block ad j, e2])]
  exact hc j x hx
theorem Bs.heap {w w' : World} {B : Nat} {A : Option Addr} {xs : List Int} {b : Nat} (h : Bs w B A xs) (hp : ∀ ad, A = some ad → ad.block ≠ b) (hh : ∀ b', b' ≠ b → w'.heap[b']? = w.heap[b']?) : Bs w' B A xs := fun hn => by
  obtain ⟨ad, e, hb, hc⟩ := h hn
  refine ⟨ad, e, hb, fun j x hx => ?_⟩
  rw [World.cell?_of_block (w := w) (a := ad.add j) (by rw [add_block]; exact hh _ (hp ad e))]
  exact hc j x hx
theorem lenH (a b c d : Value) : [a, b].length = [c, d].length := rfl
abbrev Z6 : List Value := [.string ⟨#[]⟩, .string ⟨#[]⟩, .int .i64 0, .string ⟨#[]⟩, .slice none 0 0, .slice none 0 0]
theorem size6 : (Tryz.prog.info? 41).map (·.size) = some 6 := by kernel_rfl
theorem sizeL6 (a b c d e f : Value) : (Tryz.prog.info? 41).map (·.size) = some [a, b, c, d, e, f].length := size6
theorem lenL6 (a b c d e f a' b' c' d' e' f' : Value) : [a, b, c, d, e, f].length = [a', b', c', d', e', f'].length := rfl
theorem p6_one (a b c : ByteArray) (k : Int) (A B : Option Addr) (n m o p : Nat) : ∀ u ∈ [Value.string a, .string b, .int .i64 k, .string c, .slice A n m, .slice B o p], u.oneCell' = true := fun u hu => by
  simp at hu
  rcases hu with rfl | rfl | rfl | rfl | rfl | rfl <;> rfl
theorem z6_one : ∀ u ∈ Z6, u.oneCell' = true := p6_one _ _ _ _ _ _ _ _ _ _
def badA (code k : Int) (g ci : Bool) : Bool := code != 0 || (decide (k < 1) || (decide (4294967295 < k) || (g && !ci)))
/-- The credentials that Answer prints. -/
def ansCr (us rs ns uri os cs ms : List Int) (k : Int) (g : Bool) (pw bs : List Int) : Cr := ⟨us, rs, ns, uri, respL (hashL [us, rs, pw]) ns k cs g uri ms bs, cs, os, k, g⟩
/-- The value of the header that Answer adds. -/
def ansL (code : Int) (ci : Bool) (x : Cr) : Option (List Int) := if badA code x.k x.g ci = true then none else (printCr x).map fun l => DIG ++ joinL [44, 32] l
theorem ansL_bad {code : Int} {ci : Bool} {x : Cr} (h : badA code x.k x.g ci = true) : ansL code ci x = none := if_pos h
theorem ansL_none {code : Int} {ci : Bool} {x : Cr} (h2 : printCr x = none) : ansL code ci x = none := by
  unfold ansL
  split
  · rfl
  · rw [h2]; rfl
theorem ansL_some {code : Int} {ci : Bool} {x : Cr} {l : List (List Int)} (h : badA code x.k x.g ci = false) (h2 : printCr x = some l) : ansL code ci x = some (DIG ++ joinL [44, 32] l) := by
  unfold ansL
  rw [if_neg (by rw [h]; decide), h2]
  rfl
def keepH (rs : List Int) (l : List (ByteArray × ByteArray)) : List (ByteArray × ByteArray) := l.filter fun h => (offL (byteL h.1) (byteL h.2) rs).isNone
theorem keepH_snoc (rs : List Int) (l : List (ByteArray × ByteArray)) (h : ByteArray × ByteArray) : keepH rs (l ++ [h]) = keepH rs l ++ (if (offL (byteL h.1) (byteL h.2) rs).isNone = true then [h] else []) := by
  unfold keepH
  rw [List.filter_append, List.filter_cons, List.filter_nil]
theorem keepH_len (rs : List Int) (l : List (ByteArray × ByteArray)) : (keepH rs l).length ≤ l.length := List.length_filter_le _ _
theorem take_snocH {l : List (ByteArray × ByteArray)} {k : Nat} {h : ByteArray × ByteArray} (hk : l[k]? = some h) : l.take (k + 1) = l.take k ++ [h] := by
  obtain ⟨h1, rfl⟩ := List.getElem?_eq_some_iff.1 hk
  rw [List.take_succ_eq_append_getElem h1]
def AUTHs : ByteArray := ⟨#[65, 117, 116, 104, 111, 114, 105, 122, 97, 116, 105, 111, 110]⟩
/-- What Answer hands back. -/
def AnsP (ms us rsn : ByteArray) (code : Int) (rs : List Int) (l : List (ByteArray × ByteArray)) (bs : List Int) (V : Option (List Int)) (w : World) (e : Ending) (w' : World) : Prop := Below w.heap.size w w' ∧ match V with
  | none => e = .returned (.tuple #[.agg Z6.toArray, .int .u8 2])
  | some v => ∃ A n c B m d, e = .returned (.tuple #[.agg #[.string ms, .string us, .int .i64 code, .string rsn, .slice A n c, .slice B m d], .int .u8 0]) ∧ n = (keepH rs l).length + 1 ∧ Rds w' w'.heap.size A (hds (keepH rs l ++ [(AUTHs, strOfNums v)])) ∧ m = bs.length ∧ Bs w' w'.heap.size B bs
theorem AnsP.no {ms us rsn : ByteArray} {code : Int} {rs : List Int} {l : List (ByteArray × ByteArray)} {bs : List Int} {V : Option (List Int)} {w w' : World} (h : V = none) (hb : Below w.heap.size w w') : AnsP ms us rsn code rs l bs V w (.returned (.tuple #[.agg Z6.toArray, .int .u8 2])) w' := ⟨hb, by rw [h]⟩
theorem AnsP.yes {ms us rsn : ByteArray} {code : Int} {rs : List Int} {l : List (ByteArray × ByteArray)} {bs : List Int} {V : Option (List Int)} {v : List Int} {w w' : World} {A B : Option Addr} {n c m d : Nat} (h : V = some v) (hb : Below w.heap.size w w')
    (hn : n = (keepH rs l).length + 1) (hA : Rds w' w'.heap.size A (hds (keepH rs l ++ [(AUTHs, strOfNums v)]))) (hm : m = bs.length) (hB : Bs w' w'.heap.size B bs) :
    AnsP ms us rsn code rs l bs V w (.returned (.tuple #[.agg #[.string ms, .string us, .int .i64 code, .string rsn, .slice A n c, .slice B m d], .int .u8 0])) w' := ⟨hb, by rw [h]; exact ⟨A, n, c, B, m, d, rfl, hn, hA, hm, hB⟩⟩
theorem AUTHs_by : byteL AUTHs = AUTHN := rfl
set_option maxRecDepth 100000 in
set_option maxHeartbeats 4000000 in
theorem answer_any (rs ns os us ars ans ais aps cs aos pw ms uri rsn : ByteArray) (ci cst g : Bool) (k code : Int) (A B : Option Addr) (n c m d : Nat) (l : List (ByteArray × ByteArray)) (bs : List Int) (w : World)
    (hA : Rds w w.heap.size A (hds l)) (hn : l.length = n) (hN : n ≤ 4000000) (hl : ∀ h ∈ l, h.1.size ≤ 4000000 ∧ h.2.size ≤ 4000000) (hb : By bs) (hm : bs.length = m) (hM : m ≤ 16000000) (hB : Bs w w.heap.size B bs) (hnil : B = none → m = 0 ∧ d = 0)
    (s1 : rs.size ≤ 4000000) (s2 : ns.size ≤ 4000000) (s3 : os.size ≤ 4000000) (s4 : us.size ≤ 4000000) (s5 : cs.size ≤ 4000000) (s6 : pw.size ≤ 4000000) (s7 : ms.size ≤ 4000000) (s8 : uri.size ≤ 4000000) (hK : KC w) (hS : SC w) :
    Calls Tryz.prog 22 #[.agg #[.string rs, .string ns, .string os, .bool ci, .bool cst], .agg #[.string us, .string ars, .string ans, .string ais, .string aps, .string cs, .string aos, .int .i64 k, .bool g], .string pw, .agg #[.string ms, .string uri, .int .i64 code, .string rsn, .slice A n c, .slice B m d]] w (AnsP ms uri rsn code (byteL rs) l bs (ansL code ci (ansCr (byteL us) (byteL rs) (byteL ns) (byteL uri) (byteL os) (byteL cs) (byteL ms) k g (byteL pw) bs)) w) := by
  have HK := Lib.hid hK; have HS := Lib.hid hS
  clear hK hS
  have BAD := Lib.hid (fun h => ansL_bad (code := code) (ci := ci) (x := ansCr (byteL us) (byteL rs) (byteL ns) (byteL uri) (byteL os) (byteL cs) (byteL ms) k g (byteL pw) bs) h)
  have NON0 := Lib.hid (fun h => ansL_none (code := code) (ci := ci) (x := ansCr (byteL us) (byteL rs) (byteL ns) (byteL uri) (byteL os) (byteL cs) (byteL ms) k g (byteL pw) bs) h)
  have YES0 := Lib.hid (fun l' h h2 => ansL_some (code := code) (ci := ci) (x := ansCr (byteL us) (byteL rs) (byteL ns) (byteL uri) (byteL os) (byteL cs) (byteL ms) k g (byteL pw) bs) (l := l') h h2)
  have PRE := Lib.hid (show ansCr (byteL us) (byteL rs) (byteL ns) (byteL uri) (byteL os) (byteL cs) (byteL ms) k g (byteL pw) bs = ⟨byteL us, byteL rs, byteL ns, byteL uri, respL (hashL [byteL us, byteL rs, byteL pw]) (byteL ns) k (byteL cs) g (byteL uri) (byteL ms) bs, byteL cs, byteL os, k, g⟩ from rfl)
  have SEB := Lib.hid (hashL_by [byteL us, byteL rs, byteL pw])
  have SEL := Lib.hid (hashL_len [byteL us, byteL rs, byteL pw])
  have SEC := Lib.hid (secret_any us rs pw)
  have REC := Lib.hid (refsecret_any us rs pw)
  have RPB := Lib.hid (respL_by (hashL [byteL us, byteL rs, byteL pw]) (byteL ns) k (byteL cs) g (byteL uri) (byteL ms) bs)
  have RPL := Lib.hid (respL_len (hashL [byteL us, byteL rs, byteL pw]) (byteL ns) k (byteL cs) g (byteL uri) (byteL ms) bs)
  have RSP := Lib.hid (fun (ps : ByteArray) => response_any (strOfNums (hashL [byteL us, byteL rs, byteL pw])) ms us rs ns uri ps cs os k k g B m d bs)
  have RRS := Lib.hid (fun (ps : ByteArray) => refresponse_any (strOfNums (hashL [byteL us, byteL rs, byteL pw])) ms us rs ns uri ps cs os k k g B m d bs)
  rw [byteL_str SEB.out] at RSP RRS
  have PRC := Lib.hid (fun (w : World) => printcr_any us rs ns uri (strOfNums (respL (hashL [byteL us, byteL rs, byteL pw]) (byteL ns) k (byteL cs) g (byteL uri) (byteL ms) bs)) cs os k g w s4 s1 s2 s8 (by rw [num_size, RPL.out]; decide) s5 s3)
  have RPC := Lib.hid (fun (w : World) => refprintcr_any us rs ns uri (strOfNums (respL (hashL [byteL us, byteL rs, byteL pw]) (byteL ns) k (byteL cs) g (byteL uri) (byteL ms) bs)) cs os k g w s4 s1 s2 s8 (by rw [num_size, RPL.out]; decide) s5 s3)
  rw [byteL_str RPB.out, ← PRE.out] at PRC RPC
  clear PRE
  have NON := NON0
  have YES := Lib.hid (fun l' (h : badA code k g ci = false) h2 => YES0.out l' h h2)
  clear NON0 YES0
  generalize hP : printCr (ansCr (byteL us) (byteL rs) (byteL ns) (byteL uri) (byteL os) (byteL cs) (byteL ms) k g (byteL pw) bs) = P at *
  clear hP
  generalize hR : respL (hashL [byteL us, byteL rs, byteL pw]) (byteL ns) k (byteL cs) g (byteL uri) (byteL ms) bs = rp at *
  clear hR
  generalize hSE : hashL [byteL us, byteL rs, byteL pw] = SE at *
  clear hSE
  have HN := Lib.hid hn; have HL := Lib.hid hl; have HBY := Lib.hid hb; have HM := Lib.hid hm; have HNIL := Lib.hid hnil
  clear hn hl hb hm hnil
  generalize hV : ansL code ci (ansCr (byteL us) (byteL rs) (byteL ns) (byteL uri) (byteL os) (byteL cs) (byteL ms) k g (byteL pw) bs) = V at *
  clear hV
  have S1 : (w.alloc (.cells #[.string rs, .string ns, .string os, .bool ci, .bool cst] 36)).heap.size = w.heap.size + 1 := World.size_alloc _ _
  have S2 : ((w.alloc (.cells #[.string rs, .string ns, .string os, .bool ci, .bool cst] 36)).alloc (.cells #[.string us, .string ars, .string ans, .string ais, .string aps, .string cs, .string aos, .int .i64 k, .bool g] 23)).heap.size = w.heap.size + 1 + 1 := by rw [World.size_alloc, S1]
  have S3 : (((w.alloc (.cells #[.string rs, .string ns, .string os, .bool ci, .bool cst] 36)).alloc (.cells #[.string us, .string ars, .string ans, .string ais, .string aps, .string cs, .string aos, .int .i64 k, .bool g] 23)).alloc (.cells #[.string ms, .string uri, .int .i64 code, .string rsn, .slice A n c, .slice B m d] 41)).heap.size = w.heap.size + 1 + 1 + 1 := by rw [World.size_alloc, S2]
  have R4 := Lib.hid (show Row ((((w.alloc (.cells #[.string rs, .string ns, .string os, .bool ci, .bool cst] 36)).alloc (.cells #[.string us, .string ars, .string ans, .string ais, .string aps, .string cs, .string aos, .int .i64 k, .bool g] 23)).alloc (.cells #[.string ms, .string uri, .int .i64 code, .string rsn, .slice A n c, .slice B m d] 41)).alloc (.cells Z6.toArray 41)) w.heap.size 36 [.string rs, .string ns, .string os, .bool ci, .bool cst] from (((Row.new w 36 [.string rs, .string ns, .string os, .bool ci, .bool cst]).alloc _).alloc _).alloc _)
  have R5 := Lib.hid (show Row ((((w.alloc (.cells #[.string rs, .string ns, .string os, .bool ci, .bool cst] 36)).alloc (.cells #[.string us, .string ars, .string ans, .string ais, .string aps, .string cs, .string aos, .int .i64 k, .bool g] 23)).alloc (.cells #[.string ms, .string uri, .int .i64 code, .string rsn, .slice A n c, .slice B m d] 41)).alloc (.cells Z6.toArray 41)) (w.heap.size + 1) 23 [.string us, .string ars, .string ans, .string ais, .string aps, .string cs, .string aos, .int .i64 k, .bool g] by
    have h := Row.new (w.alloc (.cells #[.string rs, .string ns, .string os, .bool ci, .bool cst] 36)) 23 [.string us, .string ars, .string ans, .string ais, .string aps, .string cs, .string aos, .int .i64 k, .bool g]
    rw [S1] at h
    exact (h.alloc _).alloc _)
  have R7 := Lib.hid (show Row ((((w.alloc (.cells #[.string rs, .string ns, .string os, .bool ci, .bool cst] 36)).alloc (.cells #[.string us, .string ars, .string ans, .string ais, .string aps, .string cs, .string aos, .int .i64 k, .bool g] 23)).alloc (.cells #[.string ms, .string uri, .int .i64 code, .string rsn, .slice A n c, .slice B m d] 41)).alloc (.cells Z6.toArray 41)) (w.heap.size + 1 + 1) 41 [.string ms, .string uri, .int .i64 code, .string rsn, .slice A n c, .slice B m d] by
    have h := Row.new ((w.alloc (.cells #[.string rs, .string ns, .string os, .bool ci, .bool cst] 36)).alloc (.cells #[.string us, .string ars, .string ans, .string ais, .string aps, .string cs, .string aos, .int .i64 k, .bool g] 23)) 41 [.string ms, .string uri, .int .i64 code, .string rsn, .slice A n c, .slice B m d]
    rw [S2] at h
    exact h.alloc _)
  have R8 := Lib.hid (show Row ((((w.alloc (.cells #[.string rs, .string ns, .string os, .bool ci, .bool cst] 36)).alloc (.cells #[.string us, .string ars, .string ans, .string ais, .string aps, .string cs, .string aos, .int .i64 k, .bool g] 23)).alloc (.cells #[.string ms, .string uri, .int .i64 code, .string rsn, .slice A n c, .slice B m d] 41)).alloc (.cells Z6.toArray 41)) (w.heap.size + 1 + 1 + 1) 41 Z6 by
    have h := Row.new (((w.alloc (.cells #[.string rs, .string ns, .string os, .bool ci, .bool cst] 36)).alloc (.cells #[.string us, .string ars, .string ans, .string ais, .string aps, .string cs, .string aos, .int .i64 k, .bool g] 23)).alloc (.cells #[.string ms, .string uri, .int .i64 code, .string rsn, .slice A n c, .slice B m d] 41)) 41 Z6
    rw [S3] at h
    exact h)
  have BW0 := Lib.hid (show Below w.heap.size w ((((w.alloc (.cells #[.string rs, .string ns, .string os, .bool ci, .bool cst] 36)).alloc (.cells #[.string us, .string ars, .string ans, .string ais, .string aps, .string cs, .string aos, .int .i64 k, .bool g] 23)).alloc (.cells #[.string ms, .string uri, .int .i64 code, .string rsn, .slice A n c, .slice B m d] 41)).alloc (.cells Z6.toArray 41)) from ((((Below.refl _ _).alloc (Nat.le_refl _) _).alloc (by rw [S1]; omega) _).alloc (by rw [S2]; omega) _).alloc (by rw [S3]; omega) _)
  clear S1 S2 S3
  have c2 := R7.out.six.2.2.1
  have c7 := R5.out.nine.2.2.2.2.2.2.2.1
  have c8 := R5.out.nine.2.2.2.2.2.2.2.2
  have c3 := R4.out.five.2.2.2.1
  rcases (show code ≠ 0 ∨ (code = 0 ∧ k < 1) ∨ (code = 0 ∧ 1 ≤ k ∧ 4294967295 < k) ∨ (code = 0 ∧ 1 ≤ k ∧ k ≤ 4294967295) by omega) with hc | ⟨hc, hk⟩ | ⟨hc, hk, hk2⟩ | ⟨hc, hk, hk2⟩
  · have E := Lib.hid (BAD.out (by unfold badA ansCr; simp [hc]))
    have d0 : (code != 0) = true := by simp [hc]
    clear hc
    go_enter Tryz.func22, Tryz.ntmps22
    go_wp2_with (with_reducible refine wpList_storeR rfl 41 (.tmp 8) (.tmp 39) rfl R8.out Z6 rfl rfl (lenL6 _ _ _ _ _ _ _ _ _ _ _ _) (sizeL6 _ _ _ _ _ _) z6_one BW0.out (by omega) ?_)
    intro w9 R9 B9 _
    go_wp2_with fail
    exact bodyPost_ret (results_ct rfl _ _ _ (w.heap.size + 1 + 1 + 1) Z6 _ rfl R9.out.range Tryz.underlying41 rfl size6) rfl (by exact AnsP.no E.out B9.out)
  · have E := Lib.hid (BAD.out (by unfold badA ansCr; simp [hk]))
    have d0 : (code != 0) = false := by simp [hc]
    have d1 : decide (k < 1) = true := by simp [hk]
    clear hk hc
    go_enter Tryz.func22, Tryz.ntmps22
    go_wp2_with (with_reducible refine wpList_storeR rfl 41 (.tmp 8) (.tmp 39) rfl R8.out Z6 rfl rfl (lenL6 _ _ _ _ _ _ _ _ _ _ _ _) (sizeL6 _ _ _ _ _ _) z6_one BW0.out (by omega) ?_)
    intro w9 R9 B9 _
    go_wp2_with fail
    exact bodyPost_ret (results_ct rfl _ _ _ (w.heap.size + 1 + 1 + 1) Z6 _ rfl R9.out.range Tryz.underlying41 rfl size6) rfl (by exact AnsP.no E.out B9.out)
  · have E := Lib.hid (BAD.out (by unfold badA ansCr; simp [hk2]))
    have d0 : (code != 0) = false := by simp [hc]
    have d1 : decide (k < 1) = false := by simp; omega
    have d2 : decide (4294967295 < k) = true := by simp [hk2]
    clear hk hk2 hc
    go_enter Tryz.func22, Tryz.ntmps22
    go_wp2_with (with_reducible refine wpList_storeR rfl 41 (.tmp 8) (.tmp 39) rfl R8.out Z6 rfl rfl (lenL6 _ _ _ _ _ _ _ _ _ _ _ _) (sizeL6 _ _ _ _ _ _) z6_one BW0.out (by omega) ?_)
    intro w9 R9 B9 _
    go_wp2_with fail
    exact bodyPost_ret (results_ct rfl _ _ _ (w.heap.size + 1 + 1 + 1) Z6 _ rfl R9.out.range Tryz.underlying41 rfl size6) rfl (by exact AnsP.no E.out B9.out)
  · have d0 : (code != 0) = false := by simp [hc]
    have d1 : decide (k < 1) = false := by simp; omega
    have d2 : decide (4294967295 < k) = false := by simp; omega
    have KR := Lib.hid (show k % 4294967296 = k by omega)
    have NB := Lib.hid (fun (h : (g && !ci) = false) => show badA code k g ci = false by
      unfold badA
      rw [d0, d1, d2, h]; rfl)
    have YB := Lib.hid (fun (h : (g && !ci) = true) => show badA code k g ci = true by
      unfold badA
      rw [d0, d1, d2, h]; rfl)
    clear hc
    cases hgc : (g && !ci) with
    | true =>
      have E := Lib.hid (BAD.out (YB.out hgc))
      obtain ⟨rfl, rfl⟩ : g = true ∧ ci = false := by simpa using hgc
      clear hgc
      go_enter Tryz.func22, Tryz.ntmps22
      go_wp2_with (with_reducible refine wpList_storeR rfl 41 (.tmp 8) (.tmp 39) rfl R8.out Z6 rfl rfl (lenL6 _ _ _ _ _ _ _ _ _ _ _ _) (sizeL6 _ _ _ _ _ _) z6_one BW0.out (by omega) ?_)
      intro w9 R9 B9 _
      go_wp2_with fail
      exact bodyPost_ret (results_ct rfl _ _ _ (w.heap.size + 1 + 1 + 1) Z6 _ rfl R9.out.range Tryz.underlying41 rfl size6) rfl (by exact AnsP.no E.out B9.out)
    | false =>
      have NB2 := Lib.hid (NB.out hgc)
      have GG : g = false ∨ (g = true ∧ ci = true) := by
        cases g
        · exact .inl rfl
        · cases ci
          · cases hgc
          · exact .inr ⟨rfl, rfl⟩
      clear hgc NB YB BAD
      go_enter Tryz.func22, Tryz.ntmps22
      have HGG := Lib.hid GG
      clear GG
      go_upto_region 1 with fail
      go_cut [38] (fun v wx => v = .bool false ∧ wx = ((((w.alloc (.cells #[.string rs, .string ns, .string os, .bool ci, .bool cst] 36)).alloc (.cells #[.string us, .string ars, .string ans, .string ais, .string aps, .string cs, .string aos, .int .i64 k, .bool g] 23)).alloc (.cells #[.string ms, .string uri, .int .i64 code, .string rsn, .slice A n c, .slice B m d] 41)).alloc (.cells Z6.toArray 41)))
      case first =>
        rcases HGG.out with rfl | ⟨rfl, rfl⟩
        all_goals
          go_wp2_with fail
          go_meet
          exact ⟨rfl, rfl⟩
      case rest =>
        obtain ⟨rfl, rfl⟩ := hcut
        clear c2 c7 c8 c3 d0 d1 d2 HGG
        generalize (((w.alloc (.cells #[.string rs, .string ns, .string os, .bool ci, .bool cst] 36)).alloc (.cells #[.string us, .string ars, .string ans, .string ais, .string aps, .string cs, .string aos, .int .i64 k, .bool g] 23)).alloc (.cells #[.string ms, .string uri, .int .i64 code, .string rsn, .slice A n c, .slice B m d] 41)).alloc (.cells Z6.toArray 41) = W at *
        go_wp2_with fail
        obtain ⟨k0, k1, k2, k3, k4, k5, k6, k7, k8⟩ := R5.out.nine
        have f1 := R5.out.frozen 1; have f2 := R5.out.frozen 2; have f3 := R5.out.frozen 3; have f6 := R5.out.frozen 6
        have g0 := R4.out.five.1; have g1 := R4.out.five.2.1; have g2 := R4.out.five.2.2.1
        have m1 := R7.out.six.2.1
        have Q5 := Lib.hid (show Row (((((W.setCell ⟨w.heap.size + 1, 1, none⟩ (.string rs)).setCell ⟨w.heap.size + 1, 2, none⟩ (.string ns)).setCell ⟨w.heap.size + 1, 6, none⟩ (.string os)).setCell ⟨w.heap.size + 1, 3, none⟩ (.string uri)).drew) (w.heap.size + 1) 23 [.string us, .string rs, .string ns, .string uri, .string aps, .string cs, .string os, .int .i64 k, .bool g] from ((((R5.out.set 1 (.string rs)).set 2 (.string ns)).set 6 (.string os)).set 3 (.string uri)).drew)
        have Q4 := Lib.hid (show Row (((((W.setCell ⟨w.heap.size + 1, 1, none⟩ (.string rs)).setCell ⟨w.heap.size + 1, 2, none⟩ (.string ns)).setCell ⟨w.heap.size + 1, 6, none⟩ (.string os)).setCell ⟨w.heap.size + 1, 3, none⟩ (.string uri)).drew) w.heap.size 36 [.string rs, .string ns, .string os, .bool ci, .bool cst] from (((((R4.out.setOther (by omega) _).setOther (by omega) _).setOther (by omega) _).setOther (by omega) _)).drew)
        have Q7 := Lib.hid (show Row (((((W.setCell ⟨w.heap.size + 1, 1, none⟩ (.string rs)).setCell ⟨w.heap.size + 1, 2, none⟩ (.string ns)).setCell ⟨w.heap.size + 1, 6, none⟩ (.string os)).setCell ⟨w.heap.size + 1, 3, none⟩ (.string uri)).drew) (w.heap.size + 1 + 1) 41 [.string ms, .string uri, .int .i64 code, .string rsn, .slice A n c, .slice B m d] from (((((R7.out.setOther (by omega) _).setOther (by omega) _).setOther (by omega) _).setOther (by omega) _)).drew)
        have Q8 := Lib.hid (show Row (((((W.setCell ⟨w.heap.size + 1, 1, none⟩ (.string rs)).setCell ⟨w.heap.size + 1, 2, none⟩ (.string ns)).setCell ⟨w.heap.size + 1, 6, none⟩ (.string os)).setCell ⟨w.heap.size + 1, 3, none⟩ (.string uri)).drew) (w.heap.size + 1 + 1 + 1) 41 Z6 from (((((R8.out.setOther (by omega) _).setOther (by omega) _).setOther (by omega) _).setOther (by omega) _)).drew)
        have QB := Lib.hid (show Below w.heap.size w (((((W.setCell ⟨w.heap.size + 1, 1, none⟩ (.string rs)).setCell ⟨w.heap.size + 1, 2, none⟩ (.string ns)).setCell ⟨w.heap.size + 1, 6, none⟩ (.string os)).setCell ⟨w.heap.size + 1, 3, none⟩ (.string uri)).drew) from ((((BW0.out.setCell (by simp) _).setCell (by simp) _).setCell (by simp) _).setCell (by simp) _).drew)
        clear R4 R5 R7 R8 BW0
        go_region_held3 (fun w' => w'.cell? ⟨w.heap.size, 0, none⟩ = some (.string rs) ∧ w'.cell? ⟨w.heap.size, 1, none⟩ = some (.string ns) ∧ w'.cell? ⟨w.heap.size, 2, none⟩ = some (.string os) ∧ w'.cell? ⟨w.heap.size + 1 + 1, 1, none⟩ = some (.string uri)) (go_keep) (fail)
        clear k0 k1 k2 k3 k4 k5 k6 k7 k8 f1 f2 f3 f6 g0 g1 g2 m1
        generalize ((((W.setCell ⟨w.heap.size + 1, 1, none⟩ (.string rs)).setCell ⟨w.heap.size + 1, 2, none⟩ (.string ns)).setCell ⟨w.heap.size + 1, 6, none⟩ (.string os)).setCell ⟨w.heap.size + 1, 3, none⟩ (.string uri)).drew = W1 at *
        go_wp2_with fail
        have HK1 := Lib.hid (HK.out.below QB.out)
        have HB1 := Lib.hid ((hB.below QB.out).up QB.out.size)
        have q0 := fun x : BW W1 => Q5.out.later x 0
        have q1 := fun x : BW W1 => Q5.out.later x 1
        have q2 := fun x : BW W1 => Q7.out.later x 0
        have q3 := fun x : BW W1 => Q7.out.later x 5
        simp only [List.getElem?_cons_succ, List.getElem?_cons_zero] at q0 q1 q2 q3
        have z1 : (strOfNums SE).size ≤ 64 := by rw [num_size, SEL.out]; exact Nat.le_refl _
        refine region_bwt 13 (by kernel_rfl) (by kernel_rfl) ?_
        simp only [List.take_succ_cons, List.take_zero, List.drop_succ_cons, List.drop_zero]
        iterate 5 go_big_quiet_step (fail)
        go_big_quiet_step (exact calls_bw (SEC.out _ (by omega) (HK1.out.below (BW.h _))))
        go_big_quiet_want
        refine quiet_load 23 (.tmp 5) rfl (w.heap.size + 1) rfl _ 23 _ Q5.out Tryz.underlying23 rfl (sizeL9 _ _ _ _ _ _ _ _ _) ?_
        simp only [Act.put, List.setIfInBounds_toArray, List.set_cons_zero, List.set_cons_succ]
        go_big_quiet_on
        iterate 4 go_big_quiet_step (fail)
        go_big_quiet_step (exact calls_bw (RSP.out aps _ HBY.out HM.out ((HB1.out.below (BW.h _)).up (BW.h _).size) KR.out (by omega) (by omega) hM (HK1.out.below (BW.h _))))
        go_big_quiet_step (fail)
        refine wpQuiet_nil ?_
        rintro _ ⟨x, rfl⟩
        clear q0 q1 q2 q3 z1
        obtain ⟨wx, hx⟩ : ∃ wx, wx = x.w := ⟨_, rfl⟩
        have BX := Lib.hid (show Below W1.heap.size W1 wx by rw [hx]; exact x.h)
        rw [← hx]
        clear hx x
        have P5 := Lib.hid (Q5.out.below BX.out)
        have h4 := P5.out.cell 4
        simp only [List.getElem?_cons_succ, List.getElem?_cons_zero] at h4
        have h4f := P5.out.frozen 4
        have Y5 := Lib.hid (show Row (wx.setCell ⟨w.heap.size + 1, 4, none⟩ (.string (strOfNums rp))) (w.heap.size + 1) 23 [.string us, .string rs, .string ns, .string uri, .string (strOfNums rp), .string cs, .string os, .int .i64 k, .bool g] from P5.out.set 4 (.string (strOfNums rp)))
        have Y4 := Lib.hid (show Row (wx.setCell ⟨w.heap.size + 1, 4, none⟩ (.string (strOfNums rp))) w.heap.size 36 [.string rs, .string ns, .string os, .bool ci, .bool cst] from (Q4.out.below BX.out).setOther (by omega) _)
        have Y7 := Lib.hid (show Row (wx.setCell ⟨w.heap.size + 1, 4, none⟩ (.string (strOfNums rp))) (w.heap.size + 1 + 1) 41 [.string ms, .string uri, .int .i64 code, .string rsn, .slice A n c, .slice B m d] from (Q7.out.below BX.out).setOther (by omega) _)
        have Y8 := Lib.hid (show Row (wx.setCell ⟨w.heap.size + 1, 4, none⟩ (.string (strOfNums rp))) (w.heap.size + 1 + 1 + 1) 41 Z6 from (Q8.out.below BX.out).setOther (by omega) _)
        have YB := Lib.hid (show Below w.heap.size w (wx.setCell ⟨w.heap.size + 1, 4, none⟩ (.string (strOfNums rp))) from (bthen QB.out BX.out).setCell (by simp) _)
        clear Q4 Q5 Q7 Q8 QB BX P5 HB1 HK1
        go_wp2_with (with_reducible refine wpList_loadR rfl 23 (.tmp 5) rfl Y5.out rfl Tryz.underlying23 rfl (sizeL9 _ _ _ _ _ _ _ _ _) ?_)
        clear h4 h4f
        generalize wx.setCell ⟨w.heap.size + 1, 4, none⟩ (.string (strOfNums rp)) = W2 at *
        refine (PRC.out _).mono ?_
        rintro e w3 ⟨rfl, hb3⟩
        have R4 := Lib.hid (Y4.out.below hb3)
        have R7 := Lib.hid (Y7.out.below hb3)
        have R8 := Lib.hid (Y8.out.below hb3)
        have BW0 := Lib.hid (bthen YB.out hb3)
        clear hb3 Y4 Y5 Y7 Y8 YB
        cases P with
        | none =>
          have E := Lib.hid (NON.out rfl)
          rw [show prV none = .tuple #[.string ⟨#[]⟩, .int .u8 2] from rfl]
          go_wp2_with (with_reducible refine wpList_storeR rfl 41 (.tmp 8) (.tmp 72) rfl R8.out Z6 rfl rfl (lenL6 _ _ _ _ _ _ _ _ _ _ _ _) (sizeL6 _ _ _ _ _ _) z6_one BW0.out (by omega) ?_)
          intro w9 R9 B9 _
          go_wp2_with fail
          exact bodyPost_ret (results_ct rfl _ _ _ (w.heap.size + 1 + 1 + 1) Z6 _ rfl R9.out.range Tryz.underlying41 rfl size6) rfl (by exact AnsP.no E.out B9.out)
        | some l' =>
          have E := Lib.hid (YES.out l' NB2.out rfl)
          rw [show prV (some l') = .tuple #[.string (strOfNums (DIG ++ joinL [44, 32] l')), .int .u8 0] from rfl]
          clear NON YES PRC RPC SEC REC RSP RRS
          generalize DIG ++ joinL [44, 32] l' = HV at *
          have e4 := R7.out.six.2.2.2.2.1
          go_wp2_with fail
          have HA3 := Lib.hid (hA.below BW0.out)
          have HS3 := Lib.hid (HS.out.below BW0.out)
          have l3 : w.heap.size + 1 + 1 + 1 < w3.heap.size := R8.out.lt
          have L3 := Lib.hid l3
          have KL := Lib.hid (keepH_len (byteL rs))
          clear l3 e4
          go_loopw [12, 77] (fun v12 v77 wr => ∃ (i : Nat) (x : Value) (L : List (ByteArray × ByteArray)), i ≤ n ∧ x = v12 ∧ v77 = .int .i64 i ∧ L.length ≤ i ∧ Hid (HDX w3 x L wr ∧ L = keepH (byteL rs) (l.take i))) (fun _ v _ => n - (intOf v).toNat)
          case atStart => exact ⟨0, _, [], Nat.zero_le _, rfl, rfl, Nat.le_refl _, Lib.hid ⟨VX.nil _ _ _, rfl⟩⟩
          case round =>
            obtain ⟨i, x, L, hi, rfl, rfl, hLi, H⟩ := hrel
            have HX0 := Lib.hid H.out.1
            have HLE := Lib.hid H.out.2
            clear H
            by_cases hlt : i < n
            · have hd : decide (i < n) = true := by simp [hlt]
              have hd2 : decide ((i : Int) < (n : Int)) = true := by simp; omega
              obtain ⟨p, hp⟩ : ∃ p, l[i]? = some p := ⟨_, List.getElem?_eq_getElem (by rw [HN.out]; exact hlt)⟩
              obtain ⟨x1, o1, rfl, hx1, hc1⟩ := HA3.out (by rw [hds_len, HN.out]; omega)
              have hz := Nat.lt_of_lt_of_le (Nat.lt_trans (Nat.lt_succ_of_lt (Nat.lt_succ_of_lt (Nat.lt_succ_of_lt hx1))) L3.out) HX0.out.bw.size
              have hz3 : x1 < w3.heap.size := by have := L3.out; omega
              have G1 := Lib.hid (show wr.rangeAt x1 (o1 + i * 2) [.string p.1, .string p.2] from fun j v hv => (HX0.out.bw.cell (p := ⟨x1, _, none⟩) hz3).trans (Rds.range (B := 0) hc1 (i * 2) _ (hds_at hp) j v hv))
              obtain ⟨h1, h2⟩ := HL.out p (List.mem_of_getElem? hp)
              have KS := Lib.hid (show keepH (byteL rs) (l.take (i + 1)) = L ++ (if (offL (byteL p.1) (byteL p.2) (byteL rs)).isNone = true then [p] else []) by rw [take_snocH hp, keepH_snoc, ← HLE.out])
              have OFF := Lib.hid (fun w h => offered_any p.1 p.2 rs w h1 h2 h)
              obtain ⟨nm, vl⟩ := p
              dsimp only at G1 KS OFF
              generalize offL (byteL nm) (byteL vl) (byteL rs) = O at *
              clear hc1 hp hz hz3 h1 h2
              have R0 := Lib.hid (Row.new wr 69 [.string ⟨#[]⟩, .string ⟨#[]⟩])
              have BA := Lib.hid (HX0.out.bw.alloc HX0.out.bw.size (.cells #[.string ⟨#[]⟩, .string ⟨#[]⟩] 69))
              have HXA := Lib.hid (HX0.out.step ((Below.refl wr.heap.size wr).alloc (Nat.le_refl _) (.cells #[.string ⟨#[]⟩, .string ⟨#[]⟩] 69)))
              have WS := Lib.hid HX0.out.bw.size
              go_wp2_with (first
                | (with_reducible refine wpList_load_mid rfl 69 (.tmp 79) rfl x1 (o1 + i * 2) rfl [.string nm, .string vl] _ G1.out Tryz.underlying69 rfl (sizeH _ _) ?_)
                | (with_reducible refine wpList_storeR rfl 69 (.tmp 14) (.tmp 80) rfl R0.out [.string nm, .string vl] rfl rfl (lenH _ _ _ _) (sizeH _ _) (h2_one _ _) BA.out WS.out ?_))
              intro wa RA BA2 HH
              have HXB := Lib.hid (HXA.out.other BA2.out (fun g hg => HH.out.2 g (by have := own_block HX0.out.o g hg; have h9 := HX0.out; rcases h9.form with ⟨e1, _⟩ | ⟨g', cap', e1, _, _, hl', _⟩ <;> rw [e1] at hg <;> simp [Value.ownBlock] at hg; omega)))
              have c0 : wa.cell? ⟨w.heap.size, 0, none⟩ = some (.string rs) := (R4.out.below BA2.out).cell 0
              go_wp2_with (with_reducible refine wpList_loadR rfl 69 (.tmp 14) rfl RA.out rfl Tryz.underlying69 rfl (sizeH _ _) ?_)
              clear c0
              refine (OFF.out _ (HS3.out.below BA2.out)).mono ?_
              rintro e wb ⟨rfl, hb4⟩
              have RB := Lib.hid (RA.out.below hb4)
              have HXC := Lib.hid (HXB.out.step hb4)
              have R1 := Lib.hid (Row.new wb 23 Z9)
              have BB := Lib.hid (HXC.out.bw.alloc HXC.out.bw.size (.cells Z9.toArray 23))
              have HXD := Lib.hid (HXC.out.step ((Below.refl wb.heap.size wb).alloc (Nat.le_refl _) (.cells Z9.toArray 23)))
              have RB2 := Lib.hid (RB.out.alloc (.cells Z9.toArray 23))
              have WS2 := Lib.hid HXC.out.bw.size
              have OWN := Lib.hid (show ∀ g, x.ownBlock = some g → g ≠ wb.heap.size from fun g hg => by
                rcases HXC.out.form with ⟨e1, _⟩ | ⟨g', cap', e1, _, _, hl', _⟩ <;> rw [e1] at hg <;> simp [Value.ownBlock] at hg
                omega)
              have RBL := Lib.hid RB.out.lt
              clear hb4 HXA HXB BA BA2 R0 HH RA G1 HX0 WS
              cases O with
              | none =>
                rw [show offV none = .tuple #[.agg Z9.toArray, .bool false] from rfl]
                go_wp2_with (with_reducible refine wpList_storeR rfl 23 (.tmp 15) (.tmp 86) rfl R1.out Z9 rfl rfl (lenL9 _ _ _ _ _ _ _ _ _ _ _ _ _ _ _ _ _ _) (sizeL9 _ _ _ _ _ _ _ _ _) (p9_one _ _ _ _ _ _ _ _ _) BB.out WS2.out ?_)
                intro wc RC BC HC
                have HXE := Lib.hid (HXD.out.other BC.out (fun g hg => HC.out.2 g (OWN.out g hg)))
                have RB3 := Lib.hid (RB2.out.heap (HC.out.2 _ (Nat.ne_of_lt RBL.out)))
                go_wp2_with (first
                  | (with_reducible refine wpList_loadR rfl 69 (.tmp 14) rfl RB3.out rfl Tryz.underlying69 rfl (sizeH _ _) ?_)
                  | (with_reducible refine wpList_pushH rfl (.tmp 90) (.tmp 92) rfl x L rfl HXE.out nm vl rfl (by omega) ?_))
                intro v5 w5 L5 E5 l5 M5
                go_wp2_with fail
                go_roundw
                case rel => exact ⟨i + 1, v5, L5, by omega, rfl, by go_num, by omega, Lib.hid ⟨M5.out, by rw [E5.out, KS.out]; rfl⟩⟩
                case measure => simp [intOf]; omega
              | some q =>
                rw [show offV (some q) = .tuple #[.agg #[.string (strOfNums q.u), .string (strOfNums q.r), .string (strOfNums q.n), .string (strOfNums q.i), .string (strOfNums q.p), .string (strOfNums q.c), .string (strOfNums q.o), .int .i64 q.k, .bool q.g], .bool true] from rfl]
                go_wp2_with (with_reducible refine wpList_storeR rfl 23 (.tmp 15) (.tmp 86) rfl R1.out [.string (strOfNums q.u), .string (strOfNums q.r), .string (strOfNums q.n), .string (strOfNums q.i), .string (strOfNums q.p), .string (strOfNums q.c), .string (strOfNums q.o), .int .i64 q.k, .bool q.g] rfl rfl (lenL9 _ _ _ _ _ _ _ _ _ _ _ _ _ _ _ _ _ _) (sizeL9 _ _ _ _ _ _ _ _ _) (p9_one _ _ _ _ _ _ _ _ _) BB.out WS2.out ?_)
                intro wc RC BC HC
                have HXE := Lib.hid (HXD.out.other BC.out (fun g hg => HC.out.2 g (OWN.out g hg)))
                go_wp2_with fail
                go_roundw
                case rel => exact ⟨i + 1, x, L, by omega, rfl, by go_num, by omega, Lib.hid ⟨HXE.out, by rw [KS.out]; simp⟩⟩
                case measure => simp [intOf]; omega
            · obtain rfl : i = n := by omega
              have LK := Lib.hid (show L = keepH (byteL rs) l by rw [HLE.out, List.take_of_length_le (by rw [HN.out]; exact Nat.le_refl _)])
              have R7r := Lib.hid (R7.out.below HX0.out.bw)
              have R8r := Lib.hid (R8.out.below HX0.out.bw)
              have BWr := Lib.hid (bthen BW0.out HX0.out.bw)
              clear HLE
              go_wp2_with (with_reducible refine wpList_pushH rfl (.tmp 95) (.tmp 98) rfl x L rfl HX0.out ⟨#[65, 117, 116, 104, 111, 114, 105, 122, 97, 116, 105, 111, 110]⟩ (strOfNums HV) rfl (by omega) ?_)
              intro v5 w5 L5 E5 l5 M5
              have R7s := Lib.hid (R7.out.below M5.out.bw)
              have R8s := Lib.hid (R8.out.below M5.out.bw)
              have BWs := Lib.hid (bthen BW0.out M5.out.bw)
              have LF := Lib.hid (show hds L5 = hds (keepH (byteL rs) l ++ [(AUTHs, strOfNums HV)]) by rw [E5.out, LK.out]; rfl)
              rcases M5.out.form with ⟨_, e0, _⟩ | ⟨gb, gc, rfl, hgc, hg1, hg2, hgcell⟩
              · omega
              have GC := Lib.hid hgcell
              have g1 : w.heap.size + 1 + 1 + 1 < gb := Nat.lt_of_lt_of_le L3.out hg1
              have e4 := R7s.out.six.2.2.2.2.1
              have e5 := R7s.out.six.2.2.2.2.2
              have f4 := R7s.out.frozen 4
              clear M5 hgcell hg1 E5 HX0 R7r R8r BWr
              go_wp2_with fail
              have HLS := Lib.hid (show L.length + 1 = (keepH (byteL rs) l).length + 1 by rw [LK.out])
              have RM := Lib.hid (show Row (w5.setCell ⟨w.heap.size + 1 + 1, 4, none⟩ (.slice (some ⟨gb, 0, none⟩) (L.length + 1) gc)) (w.heap.size + 1 + 1) 41 [.string ms, .string uri, .int .i64 code, .string rsn, .slice (some ⟨gb, 0, none⟩) (L.length + 1) gc, .slice B m d] from R7s.out.set 4 _)
              have R8m := Lib.hid (show Row (w5.setCell ⟨w.heap.size + 1 + 1, 4, none⟩ (.slice (some ⟨gb, 0, none⟩) (L.length + 1) gc)) (w.heap.size + 1 + 1 + 1) 41 Z6 from R8s.out.setOther (by omega) _)
              have BWm := Lib.hid (show Below w.heap.size w (w5.setCell ⟨w.heap.size + 1 + 1, 4, none⟩ (.slice (some ⟨gb, 0, none⟩) (L.length + 1) gc)) from BWs.out.setCell (by dsimp only; omega) _)
              have HGm := Lib.hid (show (w5.setCell ⟨w.heap.size + 1 + 1, 4, none⟩ (.slice (some ⟨gb, 0, none⟩) (L.length + 1) gc)).heap[gb]? = w5.heap[gb]? from Below.heap_setCell w5 _ _ gb (by simp; omega))
              have LGm := Lib.hid (show gb < (w5.setCell ⟨w.heap.size + 1 + 1, 4, none⟩ (.slice (some ⟨gb, 0, none⟩) (L.length + 1) gc)).heap.size by simpa [World.setCell] using hg2)
              clear e4 e5 f4 R7s R8s BWs hg2
              generalize (w5.setCell ⟨w.heap.size + 1 + 1, 4, none⟩ (.slice (some ⟨gb, 0, none⟩) (L.length + 1) gc)) = wm at *
              have HBm := Lib.hid ((hB.below BWm.out).up BWm.out.size)
              refine (cloneB_any B m d bs wm HM.out HBm.out HNIL.out hM).mono ?_
              rintro e wc ⟨⟨B', d', rfl, hb', hg'⟩, hbc⟩
              have RMc := Lib.hid (RM.out.below hbc)
              have R8c := Lib.hid (R8m.out.below hbc)
              have BWc := Lib.hid (bthen BWm.out hbc)
              have HGc := Lib.hid ((hbc.block gb LGm.out).trans HGm.out)
              have LGc := Lib.hid (Nat.lt_of_lt_of_le LGm.out hbc.size)
              have NB5 := Lib.hid (show ∀ ad, B' = some ad → ad.block ≠ (w.heap.size + 1 + 1) ∧ ad.block ≠ (w.heap.size + 1 + 1 + 1) from fun ad e => by
                have h1 := hg' ad e; have h2 := RM.out.lt; have h3 := R8m.out.lt
                omega)
              have HBc := Lib.hid hb'
              have c5 := RMc.out.six.2.2.2.2.2
              have f5 := RMc.out.frozen 5
              clear hb' hg' hbc RM R8m BWm HGm LGm HBm
              have RMd := Lib.hid (show Row (wc.setCell ⟨w.heap.size + 1 + 1, 5, none⟩ (.slice B' m d')) (w.heap.size + 1 + 1) 41 [.string ms, .string uri, .int .i64 code, .string rsn, .slice (some ⟨gb, 0, none⟩) (L.length + 1) gc, .slice B' m d'] from RMc.out.set 5 _)
              have R8d := Lib.hid (show Row (wc.setCell ⟨w.heap.size + 1 + 1, 5, none⟩ (.slice B' m d')) (w.heap.size + 1 + 1 + 1) 41 Z6 from R8c.out.setOther (by omega) _)
              have BWd := Lib.hid (show Below w.heap.size w (wc.setCell ⟨w.heap.size + 1 + 1, 5, none⟩ (.slice B' m d')) from BWc.out.setCell (by dsimp only; omega) _)
              have HGd := Lib.hid (show (wc.setCell ⟨w.heap.size + 1 + 1, 5, none⟩ (.slice B' m d')).heap[gb]? = w5.heap[gb]? from (Below.heap_setCell wc _ _ gb (by simp; omega)).trans HGc.out)

              clear RMc R8c BWc HGc
              have HBd := Lib.hid (show Bs (wc.setCell ⟨w.heap.size + 1 + 1, 5, none⟩ (.slice B' m d')) wc.heap.size B' bs from HBc.out.put (fun ad e => (NB5.out ad e).1) _)
              clear HBc
              go_wp2_with (first
                | (with_reducible refine wpList_loadR rfl 41 (.tmp 7) rfl RMd.out rfl Tryz.underlying41 rfl (sizeL6 _ _ _ _ _ _) ?_)
                | (with_reducible refine wpList_storeR rfl 41 (.tmp 8) (.tmp 105) rfl R8d.out [.string ms, .string uri, .int .i64 code, .string rsn, .slice (some ⟨gb, 0, none⟩) (L.length + 1) gc, .slice B' m d'] rfl rfl (lenL6 _ _ _ _ _ _ _ _ _ _ _ _) (sizeL6 _ _ _ _ _ _) (p6_one _ _ _ _ _ _ _ _ _ _) BWd.out (by omega) ?_))
              intro w9 R9 B9 H9
              clear c5 f5
              go_wp2_with fail
              have S9 := Lib.hid (show w9.heap.size = wc.heap.size from H9.out.1.trans (by simp [World.setCell]))
              have HB9 := Lib.hid (show Bs w9 w9.heap.size B' bs by
                rw [S9.out]
                exact HBd.out.heap (fun ad e => (NB5.out ad e).2) H9.out.2)
              have HA9 := Lib.hid (show Rds w9 w9.heap.size (some ⟨gb, 0, none⟩) (hds (keepH (byteL rs) l ++ [(AUTHs, strOfNums HV)])) from fun _ => ⟨gb, 0, rfl, by rw [S9.out]; exact LGc.out, fun j u hu => by
                rw [World.cell?_of_block (w := w5) (a := ⟨gb, 0 + j, none⟩) ((H9.out.2 gb (by omega)).trans HGd.out), Nat.zero_add]
                exact GC.out j u (by rw [LF.out]; exact hu)⟩)
              exact bodyPost_ret (results_ct rfl _ _ _ (w.heap.size + 1 + 1 + 1) [.string ms, .string uri, .int .i64 code, .string rsn, .slice (some ⟨gb, 0, none⟩) (L.length + 1) gc, .slice B' m d'] _ rfl R9.out.range Tryz.underlying41 rfl (sizeL6 _ _ _ _ _ _)) rfl (by exact AnsP.yes E.out B9.out HLS.out HA9.out HM.out.symm HB9.out)
end Go.Proofs.YtfhbpgickkibmaaGreatDoor
