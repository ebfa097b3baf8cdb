/- Contract: the law AuthBack. -/
import Derived.Test.YtfhbpgickkibmaaDoorDg
import Derived.Test.YtfhbpgickkibmaaDoorDj
import Derived.Test.YtfhbpgickkibmaaDoorPn
namespace Go.Proofs.YtfhbpgickkibmaaDoor
open Go.RowKit

theorem nq_len2 (nm : List Int) (x : ByteArray) : (nq nm (byteL x)).length ≤ nm.length + 2 * x.size + 3 := by
  have h := nq_len nm (byteL x)
  rwa [byteL_len] at h
theorem dig_by {l : List (List Int)} (h : ∀ p ∈ l, By p) : By (DIG ++ joinL [44, 32] l) := fun x hx => by
  rcases List.mem_append.1 hx with h1 | h1
  · exact (show By DIG from byteL_by ⟨#[68, 105, 103, 101, 115, 116, 32]⟩) x h1
  · exact joinL_by (show By [44, 32] from byteL_by ⟨#[44, 32]⟩) l h x h1
theorem by_lit (l : List UInt8) {m : List Int} (h : bl l = m) : By m := h ▸ bl_by l
theorem ch_two (rs ns os : ByteArray) (i st : Bool) (hb : rs.size + ns.size + os.size ≤ 1048576) : prV (printCh ⟨byteL rs, byteL ns, byteL os, i, st⟩) = .tuple #[.string ⟨#[]⟩, .int .u8 2] ∨ ∃ T : ByteArray, prV (printCh ⟨byteL rs, byteL ns, byteL os, i, st⟩) = .tuple #[.string T, .int .u8 0] ∧ T.size ≤ 4000000 ∧ chV (parseCh (byteL T)) = .tuple #[.agg #[.string rs, .string ns, .string os, .bool i, .bool st], .int .u8 0] := by
  by_cases hc : clean (byteL rs) = true ∧ clean (byteL ns) = true ∧ clean (byteL os) = true
  · refine .inr ⟨strOfNums (DIG ++ joinL [44, 32] (partsCh ⟨byteL rs, byteL ns, byteL os, i, st⟩)), ?_, ?_, ?_⟩
    · unfold printCh
      rw [if_pos hc]; rfl
    · rw [num_size, List.length_append]
      have h1 := joinL_len2 [44, 32] (partsCh ⟨byteL rs, byteL ns, byteL os, i, st⟩)
      have h2 := nq_len2 REALM rs
      have h3 := nq_len2 NONCE ns
      have h4 := nq_len2 OPAQUE os
      have h5 : (nq QOP (if i = true then BOTH else AUTH)).length ≤ 60 := by cases i <;> decide
      have hB : (nq QOP BOTH).length ≤ 60 := by decide
      have hA : (nq QOP AUTH).length ≤ 60 := by decide
      have e1 : REALM.length = 5 := rfl
      have e2 : NONCE.length = 5 := rfl
      have e3 : OPAQUE.length = 6 := rfl
      have e4 : ALGP.length = 17 := rfl
      have e5 : STALEP.length = 10 := rfl
      have e6 : DIG.length = 7 := rfl
      have h6 : ((partsCh ⟨byteL rs, byteL ns, byteL os, i, st⟩).map fun p => p.length + [44, 32].length).sum ≤ 3000000 := by
        unfold partsCh
        dsimp only
        split <;> split <;> split <;> simp only [List.map_append, List.map_cons, List.map_nil, List.sum_append, List.sum_cons, List.sum_nil, List.append_nil, List.length_cons, List.length_nil] at h5 ⊢ <;> omega
      omega
    · rw [byteL_str (dig_by (by
        have q1 := nq_by (show By REALM from byteL_by ⟨#[114, 101, 97, 108, 109]⟩) (byteL_by rs)
        have q2 := nq_by (show By NONCE from byteL_by ⟨#[110, 111, 110, 99, 101]⟩) (byteL_by ns)
        have q3 := nq_by (show By OPAQUE from byteL_by ⟨#[111, 112, 97, 113, 117, 101]⟩) (byteL_by os)
        have q4 : By (nq QOP (if i = true then BOTH else AUTH)) := nq_by (show By QOP from byteL_by ⟨#[113, 111, 112]⟩) (by cases i; exact byteL_by ⟨#[97, 117, 116, 104]⟩; exact byteL_by ⟨#[97, 117, 116, 104, 44, 97, 117, 116, 104, 45, 105, 110, 116]⟩)
        have q5 : By ALGP := byteL_by ⟨#[97, 108, 103, 111, 114, 105, 116, 104, 109, 61, 83, 72, 65, 45, 50, 53, 54]⟩
        have q6 : By STALEP := byteL_by ⟨#[115, 116, 97, 108, 101, 61, 116, 114, 117, 101]⟩
        intro p hp
        unfold partsCh at hp
        dsimp only at hp
        simp only [List.mem_append, List.mem_cons, List.not_mem_nil, or_false] at hp
        rcases hp with ((((rfl | rfl) | hp) | rfl) | rfl) | hp
        all_goals first
          | assumption
          | (split at hp <;> simp only [List.mem_cons, List.not_mem_nil, or_false] at hp <;> first | (subst hp; assumption) | cases hp)
          | (rcases hp with rfl | hp <;> first | assumption | (split at hp <;> simp only [List.mem_cons, List.not_mem_nil, or_false] at hp <;> first | (subst hp; assumption) | cases hp)))), back_ch ⟨byteL rs, byteL ns, byteL os, i, st⟩ hc]
      show Value.tuple #[.agg (chC ⟨byteL rs, byteL ns, byteL os, i, st⟩).toArray, .int .u8 0] = _
      unfold chC
      simp only [str_byteL]
  · exact .inl (by unfold printCh; rw [if_neg hc]; rfl)
theorem cr_two (us r2 n2 is ps cs o2 : ByteArray) (k : Int) (g : Bool) (hb : us.size + r2.size + n2.size + is.size + ps.size + cs.size + o2.size ≤ 1048576) : prV (printCr ⟨byteL us, byteL r2, byteL n2, byteL is, byteL ps, byteL cs, byteL o2, k, g⟩) = .tuple #[.string ⟨#[]⟩, .int .u8 2] ∨ ∃ T : ByteArray, prV (printCr ⟨byteL us, byteL r2, byteL n2, byteL is, byteL ps, byteL cs, byteL o2, k, g⟩) = .tuple #[.string T, .int .u8 0] ∧ T.size ≤ 4000000 ∧ crV (parseCr (byteL T)) = .tuple #[.agg #[.string us, .string r2, .string n2, .string is, .string ps, .string cs, .string o2, .int .i64 k, .bool g], .int .u8 0] := by
  by_cases hk : k < 0 ∨ 4294967295 < k
  · exact .inl (by unfold printCr; rw [if_pos hk]; rfl)
  · by_cases hc : cleanCr ⟨byteL us, byteL r2, byteL n2, byteL is, byteL ps, byteL cs, byteL o2, k, g⟩ = true
    · have k0 : 0 ≤ k := by omega
      have k1 : k ≤ 4294967295 := by omega
      refine .inr ⟨strOfNums (DIG ++ joinL [44, 32] (partsCr ⟨byteL us, byteL r2, byteL n2, byteL is, byteL ps, byteL cs, byteL o2, k, g⟩)), ?_, ?_, ?_⟩
      · unfold printCr
        rw [if_neg hk, if_pos hc]; rfl
      · rw [num_size, List.length_append]
        have h1 := joinL_len2 [44, 32] (partsCr ⟨byteL us, byteL r2, byteL n2, byteL is, byteL ps, byteL cs, byteL o2, k, g⟩)
        have h2 := nq_len2 USER us
        have e2 : USER.length = 8 := rfl
        have h3 := nq_len2 REALM r2
        have e3 : REALM.length = 5 := rfl
        have h4 := nq_len2 NONCE n2
        have e4 : NONCE.length = 5 := rfl
        have h5 := nq_len2 URI is
        have e5 : URI.length = 3 := rfl
        have h6 := nq_len2 RESP ps
        have e6 : RESP.length = 8 := rfl
        have h7 := nq_len2 CNONCE cs
        have e7 : CNONCE.length = 6 := rfl
        have h8 := nq_len2 OPAQUE o2
        have e8 : OPAQUE.length = 6 := rfl
        have e20 : ALGP.length = 17 := rfl
        have e21 : DIG.length = 7 := rfl
        have e22 : QOPE.length = 4 := rfl
        have e23 : NCE.length = 3 := rfl
        have e24 : (hex8 k).length = 8 := rfl
        have e25 : AUTHI.length = 8 := rfl
        have e26 : AUTH.length = 4 := rfl
        have h20 : ((partsCr ⟨byteL us, byteL r2, byteL n2, byteL is, byteL ps, byteL cs, byteL o2, k, g⟩).map fun p => p.length + [44, 32].length).sum ≤ 3000000 := by
          unfold partsCr
          dsimp only
          split <;> split <;> simp only [List.map_append, List.map_cons, List.map_nil, List.sum_append, List.sum_cons, List.sum_nil, List.append_nil, List.length_cons, List.length_nil, List.length_append] <;> omega
        omega
      · rw [byteL_str (dig_by (by
          have q0 := nq_by (show By USER from byteL_by ⟨#[117, 115, 101, 114, 110, 97, 109, 101]⟩) (byteL_by us)
          have q1 := nq_by (show By REALM from byteL_by ⟨#[114, 101, 97, 108, 109]⟩) (byteL_by r2)
          have q2 := nq_by (show By NONCE from byteL_by ⟨#[110, 111, 110, 99, 101]⟩) (byteL_by n2)
          have q3 := nq_by (show By URI from byteL_by ⟨#[117, 114, 105]⟩) (byteL_by is)
          have q4 := nq_by (show By RESP from byteL_by ⟨#[114, 101, 115, 112, 111, 110, 115, 101]⟩) (byteL_by ps)
          have q5 := nq_by (show By CNONCE from byteL_by ⟨#[99, 110, 111, 110, 99, 101]⟩) (byteL_by cs)
          have q6 := nq_by (show By OPAQUE from byteL_by ⟨#[111, 112, 97, 113, 117, 101]⟩) (byteL_by o2)
          have q10 : By ALGP := byteL_by ⟨#[97, 108, 103, 111, 114, 105, 116, 104, 109, 61, 83, 72, 65, 45, 50, 53, 54]⟩
          have q11 : By (QOPE ++ (if g = true then AUTHI else AUTH)) := by cases g; exact byteL_by ⟨#[113, 111, 112, 61, 97, 117, 116, 104]⟩; exact byteL_by ⟨#[113, 111, 112, 61, 97, 117, 116, 104, 45, 105, 110, 116]⟩
          have q12 : By (NCE ++ hex8 k) := by
            have h := byteL_by (⟨#[110, 99, 61]⟩ ++ strOfNums (hex8 k))
            rwa [(nce_eq k k0).1] at h
          intro p hp
          unfold partsCr at hp
          dsimp only at hp
          simp only [List.mem_append, List.mem_cons, List.not_mem_nil, or_false] at hp
          rcases hp with (rfl | rfl | rfl | rfl | rfl | rfl | rfl | rfl | rfl) | hp
          all_goals first
            | assumption
            | (split at hp <;> simp only [List.mem_cons, List.not_mem_nil, or_false] at hp <;> first | (subst hp; assumption) | cases hp))), back_cr ⟨byteL us, byteL r2, byteL n2, byteL is, byteL ps, byteL cs, byteL o2, k, g⟩ k0 k1 hc]
        show Value.tuple #[.agg (crC ⟨byteL us, byteL r2, byteL n2, byteL is, byteL ps, byteL cs, byteL o2, k, g⟩).toArray, .int .u8 0] = _
        unfold crC
        simp only [str_byteL]
    · exact .inl (by unfold printCr; rw [if_neg hk, if_neg hc]; rfl)
end Go.Proofs.YtfhbpgickkibmaaDoor
