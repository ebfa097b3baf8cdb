/- Contract: the reference's Fire. -/
import Derived.Test.YtcnkjgjimcddiaaGreatDoorEg
namespace Go.Proofs.YtcnkjgjimcddiaaGreatDoor
open Go.RowKit

set_option maxRecDepth 100000 in
set_option maxHeartbeats 4000000 in
theorem reffire_any (s t now : Int) (o p e : Bool) (w : World) : Calls Tryz.prog 17 #[.agg #[.int .i64 s, .bool o, .int .i64 t, .bool p, .bool e], .int .i64 now] w fun r w' => r = .returned (fireV s o t p e now) ∧ (Below w.heap.size w w') := by
  have V := Lib.hid (show fireV s o t p e now = if mayR s o t p e = false ∨ tmOK now = false then .tuple #[.agg #[.int .i64 0, .bool false, .int .i64 0, .bool false, .bool false], .int .u8 0, .int .u8 2]
    else if s = 0 ∨ e = true ∨ now < nextR s o t p then .tuple #[.agg #[.int .i64 s, .bool o, .int .i64 t, .bool p, .bool e], .int .u8 0, .int .u8 0]
    else if limR s t ≤ now then .tuple #[.agg #[.int .i64 s, .bool o, .int .i64 t, .bool false, .bool true], .int .u8 2, .int .u8 0]
    else .tuple #[.agg #[.int .i64 s, .bool o, .int .i64 t, .bool true, .bool e], .int .u8 1, .int .u8 0] from rfl)
  generalize fireV s o t p e now = X at *
  cases hm : mayR s o t p e with
  | false =>
    have E := Lib.hid (V.out.trans (if_pos (.inl hm)))
    have HM := Lib.hid hm
    clear hm V
    go_enter Tryz.func17, Tryz.ntmps17
    go_wp2_with (go_at_call 15; refine (refmay_any _ _ _ _ _ _).mono ?_; rintro e w' ⟨rfl, rfl⟩; rw [HM.out])
    all_goals ((try simp only [Exit.inBlock, Exit.then]); refine bodyPost_ret (v := X) (by rw [E.out]; simp [results, Tryz.results17, go_sem]) rfl ⟨rfl, by (repeat (first | exact Below.refl _ _ | refine below_toN ?_ _ | refine Below.alloc ?_ (by first | exact Nat.le_refl _ | (simp; done) | (simp; omega)) _ | refine Below.setCell ?_ (Nat.le_refl _) _))⟩)
  | true =>
  obtain ⟨r0, r1, r2, r3⟩ := mayR_ranges hm
  have HM := Lib.hid hm
  cases ht : tmOK now with
  | false =>
    have E := Lib.hid (V.out.trans (if_pos (.inr ht)))
    have HT := Lib.hid ht
    clear hm ht V
    go_enter Tryz.func17, Tryz.ntmps17
    go_wp2_with (first | (go_at_call 15; refine (refmay_any _ _ _ _ _ _).mono ?_; rintro e w' ⟨rfl, rfl⟩; rw [HM.out]) | (go_at_call 28; refine (reftime_any _ _).mono ?_; rintro e w' ⟨rfl, rfl⟩; rw [HT.out]))
    all_goals ((try simp only [Exit.inBlock, Exit.then]); refine bodyPost_ret (v := X) (by rw [E.out]; simp [results, Tryz.results17, go_sem]) rfl ⟨rfl, by (repeat (first | exact Below.refl _ _ | refine below_toN ?_ _ | refine Below.alloc ?_ (by first | exact Nat.le_refl _ | (simp; done) | (simp; omega)) _ | refine Below.setCell ?_ (Nat.le_refl _) _))⟩)
  | true =>
  have HT := Lib.hid ht
  have V1 := Lib.hid (V.out.trans (if_neg (by rintro (h | h); exact absurd (hm.symm.trans h) (by decide); exact absurd (ht.symm.trans h) (by decide))))
  clear V hm ht
  by_cases hs : s = 0
  · have E := Lib.hid (V1.out.trans (if_pos (.inl hs)))
    have hs' : (s == 0) = true := by simp [hs]
    clear V1
    subst hs
    go_enter Tryz.func17, Tryz.ntmps17
    go_wp2_with (first | (go_at_call 15; refine (refmay_any _ _ _ _ _ _).mono ?_; rintro e w' ⟨rfl, rfl⟩; rw [HM.out]) | (go_at_call 28; refine (reftime_any _ _).mono ?_; rintro e w' ⟨rfl, rfl⟩; rw [HT.out]))
    refine (refnext_any _ _ _ _ _ _).mono ?_
    rintro e w' ⟨rfl, hw⟩
    rw [show nextV _ _ _ _ _ = _ from if_pos (.inr (.inl rfl))]
    rcases hw with rfl | rfl
    all_goals go_wp2_with (go_at_call 30; refine (reflimit_any _ _ _ _ _ _ r2 r3 r0 r1).mono ?_; rintro e w' ⟨rfl, rfl⟩)
    all_goals ((try simp only [Exit.inBlock, Exit.then]); refine bodyPost_ret (v := X) (by rw [E.out]; simp [results, Tryz.results17, go_sem]) rfl ⟨rfl, by (repeat (first | exact Below.refl _ _ | refine below_toN ?_ _ | refine Below.alloc ?_ (by first | exact Nat.le_refl _ | (simp; done) | (simp; omega)) _ | refine Below.setCell ?_ (Nat.le_refl _) _))⟩)
  have hs' : (s == 0) = false := by simp [hs]
  cases e with
  | true =>
    have E := Lib.hid (V1.out.trans (if_pos (.inr (.inl rfl))))
    clear V1
    go_enter Tryz.func17, Tryz.ntmps17
    go_wp2_with (first | (go_at_call 15; refine (refmay_any _ _ _ _ _ _).mono ?_; rintro e w' ⟨rfl, rfl⟩; rw [HM.out]) | (go_at_call 28; refine (reftime_any _ _).mono ?_; rintro e w' ⟨rfl, rfl⟩; rw [HT.out]))
    refine (refnext_any _ _ _ _ _ _).mono ?_
    rintro e w' ⟨rfl, hw⟩
    rw [show nextV _ _ _ _ _ = _ from if_pos (.inr (.inr rfl))]
    rcases hw with rfl | rfl
    all_goals go_wp2_with (go_at_call 30; refine (reflimit_any _ _ _ _ _ _ r2 r3 r0 r1).mono ?_; rintro e w' ⟨rfl, rfl⟩)
    all_goals ((try simp only [Exit.inBlock, Exit.then]); refine bodyPost_ret (v := X) (by rw [E.out]; simp [results, Tryz.results17, go_sem]) rfl ⟨rfl, by (repeat (first | exact Below.refl _ _ | refine below_toN ?_ _ | refine Below.alloc ?_ (by first | exact Nat.le_refl _ | (simp; done) | (simp; omega)) _ | refine Below.setCell ?_ (Nat.le_refl _) _))⟩)
  | false =>
  by_cases hop : o = true ∧ p = false
  · rw [nextR_now hop] at V1
    obtain ⟨rfl, rfl⟩ := hop
    by_cases hn : now < t + 500 * s
    · have E := Lib.hid (V1.out.trans (if_pos (.inr (.inr hn))))
      have d : decide (now < t + 500 * s) = true := by simp [hn]
      clear V1 hn
      go_enter Tryz.func17, Tryz.ntmps17
      go_wp2_with (first | (go_at_call 15; refine (refmay_any _ _ _ _ _ _).mono ?_; rintro e w' ⟨rfl, rfl⟩; rw [HM.out]) | (go_at_call 28; refine (reftime_any _ _).mono ?_; rintro e w' ⟨rfl, rfl⟩; rw [HT.out]))
      refine (refnext_any _ _ _ _ _ _).mono ?_
      rintro e w' ⟨rfl, hw⟩
      rw [show nextV _ _ _ _ _ = _ from if_neg (by rintro (h | h | h); exact absurd (HM.out.symm.trans h) (by decide); exact hs h; cases h)]
      rcases hw with rfl | rfl
      all_goals rw [nextR_now ⟨rfl, rfl⟩]
      all_goals go_wp2_with (go_at_call 30; refine (reflimit_any _ _ _ _ _ _ r2 r3 r0 r1).mono ?_; rintro e w' ⟨rfl, rfl⟩)
      all_goals ((try simp only [Exit.inBlock, Exit.then]); refine bodyPost_ret (v := X) (by rw [E.out]; simp [results, Tryz.results17, go_sem]) rfl ⟨rfl, by (repeat (first | exact Below.refl _ _ | refine below_toN ?_ _ | refine Below.alloc ?_ (by first | exact Nat.le_refl _ | (simp; done) | (simp; omega)) _ | refine Below.setCell ?_ (Nat.le_refl _) _))⟩)
    · have V2 := Lib.hid (V1.out.trans (if_neg (by rintro (h | h | h); exact hs h; cases h; exact hn h)))
      have d : decide (now < t + 500 * s) = false := by simpa using hn
      clear V1 hn
      by_cases hl : limR s t ≤ now
      · have E := Lib.hid (V2.out.trans (if_pos hl))
        have d2 : decide (limR s t ≤ now) = true := by simp [hl]
        clear V2 hl
        go_enter Tryz.func17, Tryz.ntmps17
        go_wp2_with (first | (go_at_call 15; refine (refmay_any _ _ _ _ _ _).mono ?_; rintro e w' ⟨rfl, rfl⟩; rw [HM.out]) | (go_at_call 28; refine (reftime_any _ _).mono ?_; rintro e w' ⟨rfl, rfl⟩; rw [HT.out]))
        refine (refnext_any _ _ _ _ _ _).mono ?_
        rintro e w' ⟨rfl, hw⟩
        rw [show nextV _ _ _ _ _ = _ from if_neg (by rintro (h | h | h); exact absurd (HM.out.symm.trans h) (by decide); exact hs h; cases h)]
        rcases hw with rfl | rfl
        all_goals rw [nextR_now ⟨rfl, rfl⟩]
        all_goals go_wp2_with (go_at_call 30; refine (reflimit_any _ _ _ _ _ _ r2 r3 r0 r1).mono ?_; rintro e w' ⟨rfl, rfl⟩)
        all_goals ((try simp only [Exit.inBlock, Exit.then]); refine bodyPost_ret (v := X) (by rw [E.out]; simp [results, Tryz.results17, go_sem]) rfl ⟨rfl, by (repeat (first | exact Below.refl _ _ | refine below_toN ?_ _ | refine Below.alloc ?_ (by first | exact Nat.le_refl _ | (simp; done) | (simp; omega)) _ | refine Below.setCell ?_ (Nat.le_refl _) _))⟩)
      · have E := Lib.hid (V2.out.trans (if_neg hl))
        have d2 : decide (limR s t ≤ now) = false := by simpa using hl
        clear V2 hl
        go_enter Tryz.func17, Tryz.ntmps17
        go_wp2_with (first | (go_at_call 15; refine (refmay_any _ _ _ _ _ _).mono ?_; rintro e w' ⟨rfl, rfl⟩; rw [HM.out]) | (go_at_call 28; refine (reftime_any _ _).mono ?_; rintro e w' ⟨rfl, rfl⟩; rw [HT.out]))
        refine (refnext_any _ _ _ _ _ _).mono ?_
        rintro e w' ⟨rfl, hw⟩
        rw [show nextV _ _ _ _ _ = _ from if_neg (by rintro (h | h | h); exact absurd (HM.out.symm.trans h) (by decide); exact hs h; cases h)]
        rcases hw with rfl | rfl
        all_goals rw [nextR_now ⟨rfl, rfl⟩]
        all_goals go_wp2_with (go_at_call 30; refine (reflimit_any _ _ _ _ _ _ r2 r3 r0 r1).mono ?_; rintro e w' ⟨rfl, rfl⟩)
        all_goals ((try simp only [Exit.inBlock, Exit.then]); refine bodyPost_ret (v := X) (by rw [E.out]; simp [results, Tryz.results17, go_sem]) rfl ⟨rfl, by (repeat (first | exact Below.refl _ _ | refine below_toN ?_ _ | refine Below.alloc ?_ (by first | exact Nat.le_refl _ | (simp; done) | (simp; omega)) _ | refine Below.setCell ?_ (Nat.le_refl _) _))⟩)
  · have hop' : o = false ∨ p = true := by cases o <;> cases p <;> simp_all
    rw [nextR_lim hop'] at V1
    by_cases hl : limR s t ≤ now
    · have E := Lib.hid ((V1.out.trans (if_neg (by rintro (h | h | h); exact hs h; cases h; omega))).trans (if_pos hl))
      have d : decide (now < limR s t) = false := by simp; omega
      have d2 : decide (limR s t ≤ now) = true := by simp [hl]
      clear V1 hop
      go_enter Tryz.func17, Tryz.ntmps17
      go_wp2_with (first | (go_at_call 15; refine (refmay_any _ _ _ _ _ _).mono ?_; rintro e w' ⟨rfl, rfl⟩; rw [HM.out]) | (go_at_call 28; refine (reftime_any _ _).mono ?_; rintro e w' ⟨rfl, rfl⟩; rw [HT.out]))
      refine (refnext_any _ _ _ _ _ _).mono ?_
      rintro e w' ⟨rfl, hw⟩
      rw [show nextV _ _ _ _ _ = _ from if_neg (by rintro (h | h | h); exact absurd (HM.out.symm.trans h) (by decide); exact hs h; cases h)]
      rcases hw with rfl | rfl
      all_goals rw [nextR_lim hop']
      all_goals go_wp2_with (go_at_call 30; refine (reflimit_any _ _ _ _ _ _ r2 r3 r0 r1).mono ?_; rintro e w' ⟨rfl, rfl⟩)
      all_goals ((try simp only [Exit.inBlock, Exit.then]); refine bodyPost_ret (v := X) (by rw [E.out]; simp [results, Tryz.results17, go_sem]) rfl ⟨rfl, by (repeat (first | exact Below.refl _ _ | refine below_toN ?_ _ | refine Below.alloc ?_ (by first | exact Nat.le_refl _ | (simp; done) | (simp; omega)) _ | refine Below.setCell ?_ (Nat.le_refl _) _))⟩)
    · have E := Lib.hid (V1.out.trans (if_pos (.inr (.inr (by omega)))))
      have d : decide (now < limR s t) = true := by simp; omega
      clear V1 hop
      go_enter Tryz.func17, Tryz.ntmps17
      go_wp2_with (first | (go_at_call 15; refine (refmay_any _ _ _ _ _ _).mono ?_; rintro e w' ⟨rfl, rfl⟩; rw [HM.out]) | (go_at_call 28; refine (reftime_any _ _).mono ?_; rintro e w' ⟨rfl, rfl⟩; rw [HT.out]))
      refine (refnext_any _ _ _ _ _ _).mono ?_
      rintro e w' ⟨rfl, hw⟩
      rw [show nextV _ _ _ _ _ = _ from if_neg (by rintro (h | h | h); exact absurd (HM.out.symm.trans h) (by decide); exact hs h; cases h)]
      rcases hw with rfl | rfl
      all_goals rw [nextR_lim hop']
      all_goals go_wp2_with (go_at_call 30; refine (reflimit_any _ _ _ _ _ _ r2 r3 r0 r1).mono ?_; rintro e w' ⟨rfl, rfl⟩)
      all_goals ((try simp only [Exit.inBlock, Exit.then]); refine bodyPost_ret (v := X) (by rw [E.out]; simp [results, Tryz.results17, go_sem]) rfl ⟨rfl, by (repeat (first | exact Below.refl _ _ | refine below_toN ?_ _ | refine Below.alloc ?_ (by first | exact Nat.le_refl _ | (simp; done) | (simp; omega)) _ | refine Below.setCell ?_ (Nat.le_refl _) _))⟩)
end Go.Proofs.YtcnkjgjimcddiaaGreatDoor
