/- Contracts: the law's agrees and invite; messages whose headers can be read. -/
import Derived.Test.YtcnkjgjimcddiaaGreatDoorAq
import Derived.Test.YtcnkjgjimcddiaaGreatDoorEg
import Derived.Test.YtcnkjgjimcddiaaGreatDoorQc
import Derived.Laws.StructEq
namespace Go.Proofs.YtcnkjgjimcddiaaGreatDoor
open Go.RowKit

theorem guardA (x y : Operand) (xs ys : Array Value) (w : World) : (eqGuard .eql 25 x y (.agg xs) (.agg ys)).run Tryz.prog w = .ok () w := run_eqGuard_agg w .eql _ x y xs ys (by kernel_rfl)
theorem sameA (a b c : Int) (g : Bool) (w : World) : (Op.equalIn 10000 25 (.agg #[.int .i64 a, .int .i64 b, .int .i64 c, .bool g]) (.agg #[.int .i64 a, .int .i64 b, .int .i64 c, .bool g])).run Tryz.prog w = .ok true w := by
  have u3 := Tryz.underlying3
  have u4 := Tryz.underlying4
  have a3 := Tryz.isAgg3
  have a4 := Tryz.isAgg4
  have hS : Tryz.prog.underlying 25 = some (.struct (Tryz.prog.fieldsOf 25)) := by kernel_rfl
  have hp : Tryz.prog.stoodInHeld 25 = false := by kernel_rfl
  rw [show (10000 : Nat) = 9999 + 1 from rfl, run_equalIn_agg w 9999 25 _ _ hS hp]
  simp only [Program.fieldsOf, Tryz.underlying25]
  go_simp
abbrev INV : ByteArray := ⟨#[73, 78, 86, 73, 84, 69]⟩
abbrev SIPB : ByteArray := ⟨#[115, 105, 112, 58, 98, 64, 98, 46, 101, 120, 97, 109, 112, 108, 101]⟩
theorem len6m (a b c d e f a' b' c' d' e' f' : Value) : [a, b, c, d, e, f].length = [a', b', c', d', e', f'].length := rfl
theorem msg_one (a b e : ByteArray) (k : Int) (A B : Option Addr) {n c m d : Nat} : ∀ u ∈ [Value.string a, .string b, .int .i64 k, .string e, .slice A n c, .slice B m d], u.oneCell' = true := fun u hu => by
  simp at hu
  rcases hu with rfl | rfl | rfl | rfl | rfl | rfl <;> rfl
set_option maxRecDepth 100000 in
theorem invite19_any (A : Option Addr) (n c : Nat) (w : World) : Calls Tryz.prog 21 #[.slice A n c] w fun e w' => e = .returned (.agg #[.string INV, .string SIPB, .int .i64 0, .string ⟨#[]⟩, .slice A n c, .slice none 0 0]) ∧ Below w.heap.size w w' := by
  have B0 := Lib.hid ((Below.refl w.heap.size w).alloc (Nat.le_refl _) (.cells #[.string ⟨#[]⟩, .string ⟨#[]⟩, .int .i64 0, .string ⟨#[]⟩, .slice none 0 0, .slice none 0 0] 51))
  have R0 := Lib.hid (Row.new w 51 [.string ⟨#[]⟩, .string ⟨#[]⟩, .int .i64 0, .string ⟨#[]⟩, .slice none 0 0, .slice none 0 0])
  go_enter Tryz.func21, Tryz.ntmps21
  go_upto_region 1 with (fail)
  generalize w.alloc (.cells #[.string ⟨#[]⟩, .string ⟨#[]⟩, .int .i64 0, .string ⟨#[]⟩, .slice none 0 0, .slice none 0 0] 51) = W at *
  go_wp2_with (with_reducible refine wpList_storeR rfl 51 (.tmp 2) (.tmp 4) rfl R0.out [.string INV, .string SIPB, .int .i64 0, .string ⟨#[]⟩, .slice A n c, .slice none 0 0] rfl rfl (len6m _ _ _ _ _ _ _ _ _ _ _ _) (size6m _ _ _ _ _ _) (msg_one _ _ _ _ _ _) B0.out (Nat.le_refl _) ?_)
  intro w9 R9 B9 _
  go_wp2_with fail
  exact bodyPost_ret (results_cell rfl _ _ _ w.heap.size [.string INV, .string SIPB, .int .i64 0, .string ⟨#[]⟩, .slice A n c, .slice none 0 0] _ rfl R9.out.range Tryz.underlying51 rfl (size6m _ _ _ _ _ _)) rfl (by exact ⟨rfl, B9.out⟩)
set_option maxRecDepth 100000 in
set_option maxHeartbeats 1000000 in
theorem agrees_yes (ms uri rsn : ByteArray) (code least wish k mn sc : Int) (cl : Bool) (A B : Option Addr) (n c m d : Nat) (l : List (ByteArray × ByteArray)) (w : World) (hA : Rds w w.heap.size A (hds l)) (hl : HdOK l n) (hS : SC w) (hK : KD w) (h1 : (foundL l SEXP).e = 0) (h2 : (foundL l MINSE).e = 0) (h3 : agreeL l code least wish = ⟨k, mn, sc, cl, 0⟩) :
    Calls Tryz.prog 20 #[.agg #[.string ms, .string uri, .int .i64 code, .string rsn, .slice A n c, .slice B m d], .int .i64 least, .int .i64 wish, .agg #[.int .i64 k, .int .i64 mn, .int .i64 sc, .bool cl]] w fun e w' => e = .returned (.bool true) ∧ Below w.heap.size w w' := by
  have B0 := Lib.hid (show Below w.heap.size w ((w.alloc (.cells #[.string ms, .string uri, .int .i64 code, .string rsn, .slice A n c, .slice B m d] 51)).alloc (.cells #[.int .i64 k, .int .i64 mn, .int .i64 sc, .bool cl] 25)) from ((Below.refl _ _).alloc (Nat.le_refl _) _).alloc (by simp) _)
  have R4 := Lib.hid ((Row.new w 51 [.string ms, .string uri, .int .i64 code, .string rsn, .slice A n c, .slice B m d]).alloc (.cells #[.int .i64 k, .int .i64 mn, .int .i64 sc, .bool cl] 25))
  have R7 := Lib.hid (show Row ((w.alloc (.cells #[.string ms, .string uri, .int .i64 code, .string rsn, .slice A n c, .slice B m d] 51)).alloc (.cells #[.int .i64 k, .int .i64 mn, .int .i64 sc, .bool cl] 25)) (w.heap.size + 1) 25 [.int .i64 k, .int .i64 mn, .int .i64 sc, .bool cl] by
    have h := Row.new (w.alloc (.cells #[.string ms, .string uri, .int .i64 code, .string rsn, .slice A n c, .slice B m d] 51)) 25 [.int .i64 k, .int .i64 mn, .int .i64 sc, .bool cl]
    rwa [World.size_alloc] at h)
  have AQ := Lib.hid (agree_any ms uri rsn code least wish A B n c m d l _ ((hA.below B0.out).up B0.out.size) hl (hS.below B0.out) (hK.below B0.out) h1 h2)
  rw [h3, show (Ans.mk k mn sc cl 0).v = .tuple #[.agg #[.int .i64 k, .int .i64 mn, .int .i64 sc, .bool cl], .int .u8 0] from rfl] at AQ
  clear hA hl hS hK h1 h2 h3
  go_enter Tryz.func20, Tryz.ntmps20
  go_upto_region 1 with (fail)
  generalize (w.alloc (.cells #[.string ms, .string uri, .int .i64 code, .string rsn, .slice A n c, .slice B m d] 51)).alloc (.cells #[.int .i64 k, .int .i64 mn, .int .i64 sc, .bool cl] 25) = W at *
  go_wp2_with (with_reducible refine wpList_loadR rfl 51 (.tmp 4) rfl R4.out rfl Tryz.underlying51 rfl (size6m _ _ _ _ _ _) ?_)
  refine AQ.out.mono ?_
  rintro e W1 ⟨rfl, hb⟩
  have BN := Lib.hid ((Below.refl W1.heap.size W1).alloc (Nat.le_refl _) (.cells #[.int .i64 k, .int .i64 mn, .int .i64 sc, .bool cl] 25))
  have RN := Lib.hid (Row.new W1 25 [.int .i64 k, .int .i64 mn, .int .i64 sc, .bool cl])
  have R72 := Lib.hid ((R7.out.below hb).below BN.out)
  have B2 := Lib.hid (bthen (bthen B0.out hb) BN.out)
  clear hb BN R4 R7 B0 AQ
  go_upto_region 2 with (fail)
  generalize W1.alloc (.cells #[.int .i64 k, .int .i64 mn, .int .i64 sc, .bool cl] 25) = W2 at *
  generalize W1.heap.size = nb at *
  have hg := guardA
  have sA := sameA k mn sc cl
  have hse : ∀ (xs ys : Array Value) (w : World), (binOp .eql 25 (.agg xs) (.agg ys)).run Tryz.prog w = ((Op.equalIn 10000 25 (.agg xs) (.agg ys)).run Tryz.prog w).andThen fun b w' => .ok (.bool b) w' := fun xs ys w => run_eql_struct w _ xs ys
  go_wp2_with (first
    | (with_reducible refine wpList_loadR rfl 25 (.tmp 9) rfl RN.out rfl Tryz.underlying25 rfl (sizeAg _ _ _ _) ?_)
    | (with_reducible refine wpList_loadR rfl 25 (.tmp 7) rfl R72.out rfl Tryz.underlying25 rfl (sizeAg _ _ _ _) ?_))
  go_ret
  exact ⟨rfl, B2.out⟩
theorem allH_len (nm : List Int) : ∀ l : List (ByteArray × ByteArray), (allH l nm).length ≤ (l.map fun h => (elemsL (byteL h.2)).length + 1).sum
  | [] => Nat.zero_le _
  | h :: l => by
    have ih := allH_len nm l
    have h2 : allH (h :: l) nm = (if hitN (canonL nm) h = true then one1 nm h else []) ++ allH l nm := by
      rw [allH_eq, allH_eq, List.filter_cons]
      cases hitN (canonL nm) h with
      | true => rw [if_pos rfl, if_pos rfl, List.flatMap_cons]
      | false => rw [if_neg (by decide), if_neg (by decide), List.nil_append]
    have h3 : (one1 nm h).length ≤ (elemsL (byteL h.2)).length + 1 := by
      unfold one1
      split
      · omega
      · simp
    rw [h2, List.length_append, List.map_cons, List.sum_cons]
    split
    · omega
    · simp; omega
theorem HdOK.of {l : List (ByteArray × ByteArray)} {n : Nat} (hn : l.length = n) (hm : n ≤ 16000000) (hh : ∀ h ∈ l, h.1.size ≤ 4000000 ∧ h.2.size ≤ 4000000 ∧ (elemsL (byteL h.2)).isEmpty = false ∧ (byteL h.2).contains 91 = false) (ht : (l.map fun h => (elemsL (byteL h.2)).length + 1).sum ≤ 1000000) : HdOK l n :=
  ⟨hn, hm, fun h hm => ⟨(hh h hm).1, (hh h hm).2.1, (fun e => by have := (hh h hm).2.2.1; rw [e] at this; cases this), (fun e => by
    have h1 := (hh h hm).2.2.2
    rw [List.contains_eq_mem, decide_eq_true e] at h1
    cases h1)⟩, fun nm => Nat.le_trans (allH_len nm l) ht⟩
theorem HdOK.nil : HdOK [] 0 := ⟨rfl, by decide, (fun h hm => by cases hm), (fun nm => by unfold allH; simp)⟩
abbrev EXPN : ByteArray := ⟨#[83, 101, 115, 115, 105, 111, 110, 45, 69, 120, 112, 105, 114, 101, 115]⟩
abbrev SUPN : ByteArray := ⟨#[83, 117, 112, 112, 111, 114, 116, 101, 100]⟩
abbrev V1800 : ByteArray := ⟨#[49, 56, 48, 48]⟩
abbrev VTIM : ByteArray := ⟨#[116, 105, 109, 101, 114]⟩
def WH : List (ByteArray × ByteArray) := [(EXPN, V1800), (SUPN, VTIM)]
theorem WH_ok : HdOK WH 2 := HdOK.of rfl (by decide) (by
  intro h hm
  rcases List.mem_cons.1 hm with rfl | hm
  · exact ⟨by decide, by decide, by kernel_rfl, by kernel_rfl⟩
  · obtain rfl := List.mem_singleton.1 hm
    exact ⟨by decide, by decide, by kernel_rfl, by kernel_rfl⟩) (by decide +kernel)
theorem WH_e1 : (foundL WH SEXP).e = 0 := by kernel_rfl
theorem WH_e2 : (foundL WH MINSE).e = 0 := by kernel_rfl
theorem WH_agree : agreeL WH 0 90 0 = ⟨0, 0, 1800, true, 0⟩ := by kernel_rfl
theorem nil_e1 : (foundL [] SEXP).e = 0 := by kernel_rfl
theorem nil_e2 : (foundL [] MINSE).e = 0 := by kernel_rfl
theorem nil_agree : agreeL [] 0 90 0 = ⟨0, 0, 0, false, 0⟩ := by kernel_rfl
end Go.Proofs.YtcnkjgjimcddiaaGreatDoor
