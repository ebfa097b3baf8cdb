/- Contract: address's dialed. Words for address's Parse: the rows that stay, the tail of an address. Contract: address.Parse. -/
import Derived.Test.YthfonniieaiocaaGreatDoorUk
import Derived.Test.YthfonniieaiocaaGreatDoorLk
import Derived.Test.YthfonniieaiocaaGreatDoorEy
set_option linter.unusedVariables false
set_option linter.unusedSimpArgs false
namespace Go.Proofs.YthfonniieaiocaaGreatDoor
open Go.RowKit

theorem cut_plus (s : ByteArray) : (⟨(Lib.trimPrefix s.data.toList [43]).toArray⟩ : ByteArray) = strOfNums (if decide ((byteL s).head? = some 43) = true then (byteL s).drop 1 else byteL s) ∧ Lib.hasPrefix s.data.toList [43] = decide ((byteL s).head? = some 43) := by
  obtain ⟨⟨L⟩⟩ := s
  unfold Lib.trimPrefix Lib.hasPrefix byteL
  have key : ∀ r : List UInt8, strOfNums (r.map fun c => (c.toNat : Int)) = ⟨r.toArray⟩ := fun r => str_byteL ⟨r.toArray⟩
  cases L with
  | nil => exact ⟨rfl, rfl⟩
  | cons c r =>
    by_cases hc : c = 43
    · subst hc
      refine ⟨?_, rfl⟩
      exact (key r).symm
    · have e1 : List.isPrefixOf [43] (c :: r) = false := by
        simp [List.isPrefixOf]; exact fun h => hc h.symm
      have e2 : decide (((c :: r).map fun c => (c.toNat : Int)).head? = some 43) = false := by
        rw [decide_eq_false_iff_not]
        intro h
        simp at h
        exact hc (UInt8.toNat_inj.1 (by simpa using (by omega : c.toNat = 43)))
      refine ⟨?_, ?_⟩
      · show (⟨(if List.isPrefixOf [43] (c :: r) = true then (c :: r).drop 1 else (c :: r)).toArray⟩ : ByteArray) = strOfNums (if decide (((c :: r).map fun c => (c.toNat : Int)).head? = some 43) = true then _ else _)
        rw [e1, e2, if_neg (by decide), if_neg (by decide)]
        exact (key (c :: r)).symm
      · exact e1.trans e2.symm
theorem drop_get {l : List Int} {i : Nat} (h : i < l.length) : l.drop i = l.getD i 0 :: l.drop (i + 1) := by
  rw [List.drop_eq_getElem_cons h, List.getD_eq_getElem?_getD, List.getElem?_eq_getElem h]; rfl
theorem tel_dig {sg : Bool} {c : Int} (h : isDig c = true) : telC sg c = true := by unfold telC; rw [h]; rfl
set_option maxRecDepth 100000 in
set_option maxHeartbeats 1000000 in
theorem dialed_any (s : ByteArray) (w : World) (hs : s.size ≤ 4000000) : Calls Tryz.prog 98 #[.string s] w fun e w' => e = .returned (.bool (dialedL (byteL s))) ∧ w = w' := by
  obtain ⟨c1, c2⟩ := cut_plus s
  have CP := Lib.hid (fun w => (Tryz.strings_CutPrefix s ⟨#[43]⟩ w).mono (R' := fun e w' => e = .returned (.tuple #[.string (strOfNums (if decide ((byteL s).head? = some 43) = true then (byteL s).drop 1 else byteL s)), .bool (decide ((byteL s).head? = some 43))]) ∧ w = w') fun e w' h => ⟨by rw [h.1, ← c1, ← c2], h.2.symm⟩)
  have RE := Lib.hid (show dialedL (byteL s) = ((decide ((if decide ((byteL s).head? = some 43) = true then (byteL s).drop 1 else byteL s) ≠ []) && decide ((if decide ((byteL s).head? = some 43) = true then (byteL s).drop 1 else byteL s).length ≤ 30)) && (if decide ((byteL s).head? = some 43) = true then (byteL s).drop 1 else byteL s).all (telC (decide ((byteL s).head? = some 43)))) from rfl)
  have DB : By (if decide ((byteL s).head? = some 43) = true then (byteL s).drop 1 else byteL s) := by
    split
    · exact fun x hx => byteL_by s x (List.mem_of_mem_drop hx)
    · exact byteL_by s
  clear c1 c2
  generalize dialedL (byteL s) = R at *
  generalize (if decide ((byteL s).head? = some 43) = true then (byteL s).drop 1 else byteL s) = d at *
  generalize decide ((byteL s).head? = some 43) = sg at *
  have BS := Lib.hid (byteL_str DB)
  have DB2 := Lib.hid DB
  have LN := num_size d
  have EB := empty_beq d
  clear DB
  go_enter Tryz.func98, Tryz.ntmps98
  go_wp2_with fail
  refine (CP.out _).mono ?_
  rintro _ _ ⟨rfl, rfl⟩
  clear CP
  cases hd0 : d with
  | nil =>
    have E := Lib.hid (show R = false by rw [RE.out, hd0]; rfl)
    subst hd0
    rw [show strOfNums [] = ⟨#[]⟩ from rfl]
    clear RE BS DB2 LN EB
    go_wp2_with fail
    first | (go_ret; exact ⟨by rw [E.out]; rfl, rfl⟩) | exact ⟨by rw [E.out]; rfl, rfl⟩
  | cons x y =>
    have q0 : ((strOfNums d).toList == []) = false := by rw [EB, hd0]; rfl
    have q1 : ¬ (strOfNums d).toList = [] := by simpa using q0
    have RE2 := Lib.hid (show R = (decide (d.length ≤ 30) && d.all (telC sg)) by rw [RE.out, show decide (d ≠ []) = true by rw [hd0]; simp]; rfl)
    rw [← hd0]
    clear hd0 RE EB
    by_cases h30 : 30 < d.length
    · have E := Lib.hid (show R = false by rw [RE2.out, show decide (d.length ≤ 30) = false by simp; omega]; rfl)
      have d3 : decide ((30 : Int) < (d.length : Int)) = true := by simp; omega
      clear RE2 h30
      go_wp2_with fail
      first | (go_ret; exact ⟨by rw [E.out]; rfl, rfl⟩) | exact ⟨by rw [E.out]; rfl, rfl⟩
    · have RE3 := Lib.hid (show R = (d.drop 0).all (telC sg) by rw [RE2.out, show decide (d.length ≤ 30) = true by simp; omega, List.drop_zero]; rfl)
      have d3 : decide ((30 : Int) < (d.length : Int)) = false := by simp; omega
      obtain ⟨n, hn⟩ : ∃ n, d.length = n := ⟨_, rfl⟩
      rw [hn] at LN d3
      have HN := Lib.hid hn
      have n30 : n ≤ 30 := by omega
      clear RE2 h30 hn
      go_wp2_with fail
      go_loopw [5, 6, 21] (fun _ _ v wr => ∃ i : Nat, i ≤ n ∧ v = .int .i64 i ∧ Hid (R = (d.drop i).all (telC sg)) ∧ wr = w) (fun _ _ v _ => n - (intOf v).toNat)
      case atStart => exact ⟨0, Nat.zero_le _, rfl, RE3, rfl⟩
      case round =>
        clear RE3 q0 q1 d3
        obtain ⟨i, hi, rfl, RI, rfl⟩ := hrel
        by_cases hlt : i < n
        · have hd : decide ((i : Int) < (n : Int)) = true := by simp; omega
          have d1 := fun w => idx_str (strOfNums d) (i := i) (by rw [LN]; exact hlt) (z := (i : Int)) rfl w
          rw [BS.out] at d1
          have RJ := Lib.hid (show R = (telC sg (d.getD i 0) && (d.drop (i + 1)).all (telC sg)) by rw [RI.out, drop_get (by rw [HN.out]; exact hlt)]; rfl)
          generalize d.getD i 0 = c at *
          have DG := Lib.hid (fun w => addigit_any c w)
          cases hc : isDig c with
          | true =>
            rw [hc] at DG
            have R2 := Lib.hid (show R = (d.drop (i + 1)).all (telC sg) by rw [RJ.out, tel_dig hc]; rfl)
            clear hc RJ RI
            go_wp2_with (go_at_call 121; refine (DG.out _).mono ?_; rintro e w2 ⟨rfl, rfl⟩)
            go_roundw
            case rel => exact ⟨i + 1, by omega, by go_num, R2, by first | rfl | trivial⟩
            case measure => simp [intOf]; omega
          | false =>
            rw [hc] at DG
            cases sg with
            | true =>
              have E := Lib.hid (show R = false by rw [RJ.out, show telC true c = false by unfold telC; rw [hc]; rfl]; rfl)
              clear hc RJ RI
              go_wp2_with (go_at_call 121; refine (DG.out _).mono ?_; rintro e w2 ⟨rfl, rfl⟩)
              first | (go_ret; exact ⟨by rw [E.out]; rfl, rfl⟩) | exact ⟨by rw [E.out]; rfl, rfl⟩
            | false =>
              by_cases h42 : c = 42
              · subst h42
                have R2 := Lib.hid (show R = (d.drop (i + 1)).all (telC false) by rw [RJ.out]; rfl)
                clear hc RJ RI
                go_wp2_with (go_at_call 121; refine (DG.out _).mono ?_; rintro e w2 ⟨rfl, rfl⟩)
                go_roundw
                case rel => exact ⟨i + 1, by omega, by go_num, R2, by first | rfl | trivial⟩
                case measure => simp [intOf]; omega
              · by_cases h35 : c = 35
                · subst h35
                  have R2 := Lib.hid (show R = (d.drop (i + 1)).all (telC false) by rw [RJ.out]; rfl)
                  clear hc RJ RI
                  go_wp2_with (go_at_call 121; refine (DG.out _).mono ?_; rintro e w2 ⟨rfl, rfl⟩)
                  go_roundw
                  case rel => exact ⟨i + 1, by omega, by go_num, R2, by first | rfl | trivial⟩
                  case measure => simp [intOf]; omega
                · have E := Lib.hid (show R = false by rw [RJ.out, show telC false c = false by unfold telC; rw [hc]; simp [h42, h35]]; rfl)
                  have n42 : (c != 42) = true := by simpa using h42
                  have n35 : (c != 35) = true := by simpa using h35
                  clear hc RJ RI h42 h35
                  go_wp2_with (go_at_call 121; refine (DG.out _).mono ?_; rintro e w2 ⟨rfl, rfl⟩)
                  first | (go_ret; exact ⟨by rw [E.out]; rfl, rfl⟩) | exact ⟨by rw [E.out]; rfl, rfl⟩
        · obtain rfl : i = n := by omega
          have hd : decide ((i : Int) < (i : Int)) = false := by simp
          have E := Lib.hid (show R = true by rw [RI.out, List.drop_of_length_le (by rw [HN.out]; exact Nat.le_refl _)]; rfl)
          clear RI
          go_wp2_with fail
          first | (go_ret; exact ⟨by rw [E.out]; rfl, rfl⟩) | exact ⟨by rw [E.out]; rfl, rfl⟩
end Go.Proofs.YthfonniieaiocaaGreatDoor
namespace Go.Proofs.YthfonniieaiocaaGreatDoor
open Go.RowKit

theorem uri_eq {xs : List Int} {k : Nat} (hk : untilL xs 0 [58] = k) : uriL xs =
    if 1024 < xs.length then .error (1024, 4) else if xs.length ≤ k then .error (xs.length, 5)
    else if lowS (xs.take k) = SIPT ∨ lowS (xs.take k) = SIPST then
      (match placeL xs (k + 1) with
      | .error e => .error e
      | .ok (u, h, p, a) => tailL xs [59, 63] (lowS (xs.take k)) u h p a)
    else if lowS (xs.take k) = TELT then
      (match phoneL xs (k + 1) with
      | .error e => .error e
      | .ok (u, a) => tailL xs [59] (lowS (xs.take k)) u [] 0 a)
    else .error (0, 15) := by subst hk; rfl
/-- What the heads from an offset on make of an address. -/
def hdR (xs sc us ho : List Int) (po : Int) (ps : List Pm) (f b : Nat) (l : List Pm) : Except (Nat × Int) Uri :=
  match hsN xs f b l with
  | .error e => .error e
  | .ok hs => .ok ⟨sc, us, ho, po, sortPm ps, sortPm hs⟩
def psR (xs st sc us ho : List Int) (po : Int) (f a : Nat) (l : List Pm) : Except (Nat × Int) Uri :=
  match psN xs st f a l with
  | .error e => .error e
  | .ok (ps, b) => hdR xs sc us ho po ps (xs.length + 1) b []
theorem tail_eq (xs st sc us ho : List Int) (po : Int) (a : Nat) : tailL xs st sc us ho po a = psR xs st sc us ho po (xs.length + 1) a [] := by
  unfold tailL psR hdR
  cases psN xs st (xs.length + 1) a [] <;> rfl
section
variable {xs st sc us ho : List Int} {po : Int} {f a : Nat} {l m ps : List Pm} {e : Nat × Int}
theorem psR_end (h : atL xs a 59 = false) : psR xs st sc us ho po (f + 1) a l = hdR xs sc us ho po l (xs.length + 1) a [] := by
  unfold psR psN; rw [if_pos h]
theorem psR_bad (h : atL xs a 59 = true) (h2 : fieldL xs l (a + 1) (untilL xs (a + 1) st) 1 = .error e) : psR xs st sc us ho po (f + 1) a l = .error e := by
  unfold psR psN; rw [if_neg (by rw [h]; decide), h2]
theorem psR_go (h : atL xs a 59 = true) (h2 : fieldL xs l (a + 1) (untilL xs (a + 1) st) 1 = .ok m) : psR xs st sc us ho po (f + 1) a l = psR xs st sc us ho po f (untilL xs (a + 1) st) m := by
  conv => lhs; unfold psR psN
  rw [if_neg (by rw [h]; decide), h2]
  rfl
theorem hdR_end (h : xs.length ≤ a) : hdR xs sc us ho po ps (f + 1) a l = .ok ⟨sc, us, ho, po, sortPm ps, sortPm l⟩ := by
  unfold hdR hsN; rw [if_pos h]
theorem hdR_bad (h : ¬ xs.length ≤ a) (h2 : fieldL xs l (a + 1) (untilL xs (a + 1) [38]) 2 = .error e) : hdR xs sc us ho po ps (f + 1) a l = .error e := by
  unfold hdR hsN; rw [if_neg h, h2]
theorem hdR_go (h : ¬ xs.length ≤ a) (h2 : fieldL xs l (a + 1) (untilL xs (a + 1) [38]) 2 = .ok m) : hdR xs sc us ho po ps (f + 1) a l = hdR xs sc us ho po ps f (untilL xs (a + 1) [38]) m := by
  conv => lhs; unfold hdR hsN
  rw [if_neg h, h2]
  rfl
end
section
variable {w wr w' : World} {cb a ub i : Nat} {s : ByteArray} {l : List Pm} {v u : Value} {K : List Blk} {T : TypeId} {us : List Value}
/-- A store into the first of the rows that stay. -/
theorem PK.kset (h : PK w cb s a l v ((ub, T, us) :: K) wr) (hg : w.heap.size ≤ ub) (hK : ∀ r ∈ K, ub ≠ r.1) (i : Nat) (u : Value) : PK w cb s a l v ((ub, T, us.set i u) :: K) (wr.setCell ⟨ub, i, none⟩ u) := by
  have h1 : Row wr ub T us := h.k (ub, T, us) (by simp)
  have h2 := h.t1 (ub, T, us) (by simp)
  have h3 := h.t2 (ub, T, us) (by simp)
  refine ⟨h.ps.put h3 hg h2, fun r hr => ?_, fun r hr => ?_, fun r hr => ?_⟩
  · rcases List.mem_cons.1 hr with rfl | hr
    · exact h1.set i u
    · exact (h.k r (List.mem_cons_of_mem _ hr)).setOther (hK r hr) u
  · rcases List.mem_cons.1 hr with rfl | hr
    · exact h2
    · exact h.t1 r (List.mem_cons_of_mem _ hr)
  · rcases List.mem_cons.1 hr with rfl | hr
    · exact h3
    · exact h.t2 r (List.mem_cons_of_mem _ hr)
end
/-- The whole row of a slice of one's own: at most one block. -/
theorem VX.whole {w wr : World} {v : Value} {n : Nat} {cs : List Value} (H : VX 56 3 w v n cs wr) : ∃ (K : List Blk) (A : Option Addr) (c : Nat), v = .slice A n c ∧ (A = none → n = 0 ∧ c = 0) ∧ (∀ r ∈ K, Row wr r.1 r.2.1 r.2.2 ∧ w.heap.size ≤ r.1 ∧ r.2.1 = 56 ∧ v.ownBlock = some r.1) ∧ ∀ w', (∀ r ∈ K, Row w' r.1 r.2.1 r.2.2) → Rds w' w'.heap.size A cs := by
  have hl := H.o.1
  rcases H.o.2 with ⟨rfl, rfl⟩ | ⟨g, cap, cur, rfl, hb, hg, hc, _, hs, ht⟩
  · refine ⟨[], none, 0, rfl, fun _ => ⟨rfl, rfl⟩, (fun r hr => by cases hr), fun w' _ hn => ?_⟩
    rw [List.eq_nil_of_length_eq_zero (l := cs) (by simpa using hl)] at hn
    simp at hn
  · have hr0 : Row wr g 56 cur.toList := by unfold Row; rw [hg]
    refine ⟨[(g, 56, cur.toList)], some ⟨g, 0, none⟩, cap, rfl, (fun h => by cases h), (fun r hr => by rw [List.mem_singleton] at hr; subst hr; exact ⟨hr0, hb, rfl, rfl⟩), fun w' hk hn => ?_⟩
    have hr := hk (g, 56, cur.toList) (by simp)
    refine ⟨g, 0, rfl, hr.lt, fun j u hx => ?_⟩
    rw [Nat.zero_add, hr.cell j]
    have hj : j < cs.length := (List.getElem?_eq_some_iff.1 hx).1
    have h2 : (cur.toList.take (n * 3))[j]? = cs[j]? := by rw [ht]
    rw [List.getElem?_take, if_pos (by omega), hx] at h2
    exact h2
/-- The parameters are read: their row stays, and the heads begin. -/
theorem PK.turn {w wr : World} {cb a : Nat} {s : ByteArray} {l : List Pm} {v : Value} {K K2 : List Blk} (h : PK w cb s a l v K wr) (hK : ∀ r ∈ K2, Row wr r.1 r.2.1 r.2.2 ∧ w.heap.size ≤ r.1 ∧ r.2.1 = 56 ∧ v.ownBlock = some r.1) : PK w cb s a [] (.slice none 0 0) (K ++ K2) wr := by
  refine ⟨⟨h.c, h.ps.ge, World.ownsRow_nil _ _ _ _, h.o.bw⟩, fun r hr => ?_, (fun r hr g hg => by cases hg), fun r hr => ?_⟩
  · rcases List.mem_append.1 hr with hr | hr
    · exact h.k r hr
    · exact (hK r hr).1
  · rcases List.mem_append.1 hr with hr | hr
    · exact h.t2 r hr
    · exact h.ps.far r.1 (hK r hr).2.2.2
end Go.Proofs.YthfonniieaiocaaGreatDoor
namespace Go.Proofs.YthfonniieaiocaaGreatDoor
open Go.RowKit

def uZ : List Value := [.string ⟨#[]⟩, .string ⟨#[]⟩, .string ⟨#[]⟩, .int .i64 0, .slice none 0 0, .slice none 0 0]
def uV (u : Uri) (v1 v2 : Value) : List Value := [.string (strOfNums u.sc), .string (strOfNums u.us), .string (strOfNums u.ho), .int .i64 u.po, v1, v2]
def UriP (w : World) (R : Except (Nat × Int) Uri) (e : Ending) (w' : World) : Prop := match R with
  | .error q => e = .returned (.tuple #[.agg #[.string ⟨#[]⟩, .string ⟨#[]⟩, .string ⟨#[]⟩, .int .i64 0, .slice none 0 0, .slice none 0 0], .int .i64 (q.1 : Nat), .int .u8 q.2]) ∧ Below w.heap.size w w' ∧ q.2 ≠ 0
  | .ok u => ∃ v1 v2, e = .returned (.tuple #[.agg #[.string (strOfNums u.sc), .string (strOfNums u.us), .string (strOfNums u.ho), .int .i64 u.po, v1, v2], .int .i64 0, .int .u8 0]) ∧ VX 56 3 w v1 u.ps.length (pms u.ps) w' ∧ VX 56 3 w v2 u.hs.length (pms u.hs) w'
theorem sizeU (a b c d e f : Value) : (Tryz.prog.info? 32).map (·.size) = some [a, b, c, d, e, f].length := show (Tryz.prog.info? 32).map (·.size) = some 6 by kernel_rfl
theorem lenU (a b c d e f a' b' c' d' e' f' : Value) : [a, b, c, d, e, f].length = [a', b', c', d', e', f'].length := rfl
theorem u_one (a b c : ByteArray) (d : Int) {A B : Option Addr} {n m c1 c2 : Nat} : ∀ u ∈ [Value.string a, .string b, .string c, .int .i64 d, .slice A n c1, .slice B m c2], u.oneCell' = true := fun u hu => by
  simp only [List.mem_cons, List.not_mem_nil, or_false] at hu
  rcases hu with rfl | rfl | rfl | rfl | rfl | rfl <;> rfl
/-- The rows ahead of the loops. -/
theorem PK.of_mine {w wr : World} {cb ub a : Nat} {s : ByteArray} {us : List Value} {F : List (World → Prop)} (h : Mine w wr (LP cb ub s a us) F) : PK w cb s a [] (.slice none 0 0) [(ub, 32, us)] wr := by
  refine ⟨⟨mine_c h, h.ge (i := 0) rfl, World.ownsRow_nil _ _ _ _, h.bw⟩, fun r hr => ?_, (fun r hr g hg => by cases hg), fun r hr => ?_⟩
  · rw [List.mem_singleton] at hr; subst hr; exact mine_u h
  · rw [List.mem_singleton] at hr; subst hr; exact (rowT_ne (mine_c h) (mine_u h) (by decide)).symm
theorem mine_ub {w wr : World} {cb ub a : Nat} {s : ByteArray} {us : List Value} {F : List (World → Prop)} (h : Mine w wr (LP cb ub s a us) F) : w.heap.size ≤ ub := h.ge (i := 1) rfl
def STP (stb : ByteArray) (st : List Int) : Prop := (stb = ⟨#[59, 63]⟩ ∧ st = [59, 63]) ∨ (stb = ⟨#[59]⟩ ∧ st = [59])
theorem stp_until {stb : ByteArray} {st : List Int} (h : STP stb st) (s : ByteArray) (a : Nat) (w : World) (hs : s.size ≤ 4000000) (ha : a ≤ s.size) : Calls Tryz.prog 71 #[.agg #[.string s], .int .i64 a, .string stb] w fun e w' => e = .returned (.int .i64 (untilL (byteL s) a st : Nat)) ∧ Below w.heap.size w w' := by
  rcases h with ⟨rfl, rfl⟩ | ⟨rfl, rfl⟩
  · exact until_any s ⟨#[59, 63]⟩ a w hs ha (by decide) (by decide) asc_59
  · exact until_any s ⟨#[59]⟩ a w hs ha (by decide) (by decide) asc_3b
theorem asc_38 : Asc7 ⟨#[38]⟩ := fun j b h => by
  have hm := List.mem_of_getElem? h
  simp only [List.mem_cons, List.not_mem_nil, or_false] at hm
  subst hm; decide
/-- The address's row while the parameters are read. -/
def uK (ub : Nat) (sc us ho : List Int) (po : Int) (v1 v2 : Value) : Blk := (ub, 32, [.string (strOfNums sc), .string (strOfNums us), .string (strOfNums ho), .int .i64 po, v1, v2])
def Lp1 (wb : World) (cb ub : Nat) (s : ByteArray) (st sc us ho : List Int) (po : Int) (R : Except (Nat × Int) Uri) (g : Nat) (v8 v9 : Value) (wx : World) : Prop :=
  (∃ (n : Nat) (k : Int), v8 = .int .i64 n ∧ v9 = .int .u8 k ∧ k ≠ 0 ∧ Hid (R = .error (n, k)) ∧ Hid (Below wb.heap.size wb wx)) ∨
  (∃ (a f : Nat) (l : List Pm) (v : Value), v8 = .int .i64 0 ∧ v9 = .int .u8 0 ∧ a ≤ s.size ∧ a + g = s.size + 1 ∧ s.size + 1 ≤ f + a ∧ l.length ≤ 16 ∧ Hid (R = psR (byteL s) st sc us ho po f a l) ∧ Hid (LOK 1 l) ∧ Hid (PK wb cb s a l v [uK ub sc us ho po v (.slice none 0 0)] wx))
def Lp2 (wb : World) (cb ub : Nat) (s : ByteArray) (sc us ho : List Int) (po : Int) (ps : List Pm) (v1 : Value) (K2 : List Blk) (R : Except (Nat × Int) Uri) (g : Nat) (v8 v9 : Value) (wx : World) : Prop :=
  (∃ (n : Nat) (k : Int), v8 = .int .i64 n ∧ v9 = .int .u8 k ∧ k ≠ 0 ∧ Hid (R = .error (n, k)) ∧ Hid (Below wb.heap.size wb wx)) ∨
  (∃ (a f : Nat) (l : List Pm) (v : Value), v8 = .int .i64 0 ∧ v9 = .int .u8 0 ∧ a ≤ s.size ∧ a + g = s.size + 1 ∧ s.size + 1 ≤ f + a ∧ l.length ≤ 16 ∧ Hid (R = hdR (byteL s) sc us ho po ps f a l) ∧ Hid (LOK 2 l) ∧ Hid (PK wb cb s a l v (uK ub sc us ho po v1 v :: K2) wx))
/-- What stands between the loops. -/
def Mid (wb : World) (cb ub : Nat) (s : ByteArray) (sc us ho : List Int) (po : Int) (R : Except (Nat × Int) Uri) (v8 v9 : Value) (wx : World) : Prop :=
  (∃ (n : Nat) (k : Int), v8 = .int .i64 n ∧ v9 = .int .u8 k ∧ k ≠ 0 ∧ Hid (R = .error (n, k)) ∧ Hid (Below wb.heap.size wb wx)) ∨
  (∃ (a : Nat) (l : List Pm) (v : Value), v8 = .int .i64 0 ∧ v9 = .int .u8 0 ∧ a ≤ s.size ∧ l.length ≤ 16 ∧ Hid (R = hdR (byteL s) sc us ho po l (s.size + 1) a []) ∧ Hid (LOK 1 l) ∧ Hid (PK wb cb s a l v [uK ub sc us ho po v (.slice none 0 0)] wx))
/-- What stands behind the loops. -/
def Fin (wb : World) (cb ub : Nat) (s : ByteArray) (sc us ho : List Int) (po : Int) (ps : List Pm) (v1 : Value) (K2 : List Blk) (R : Except (Nat × Int) Uri) (v8 v9 : Value) (wx : World) : Prop :=
  (∃ (n : Nat) (k : Int), v8 = .int .i64 n ∧ v9 = .int .u8 k ∧ k ≠ 0 ∧ Hid (R = .error (n, k)) ∧ Hid (Below wb.heap.size wb wx)) ∨
  (∃ (a : Nat) (l : List Pm) (v : Value), v8 = .int .i64 0 ∧ v9 = .int .u8 0 ∧ l.length ≤ 16 ∧ Hid (R = .ok ⟨sc, us, ho, po, sortPm ps, sortPm l⟩) ∧ Hid (LOK 2 l) ∧ Hid (PK wb cb s a l v (uK ub sc us ho po v1 v :: K2) wx))
/-- What a field has come to, in one way. -/
theorem fld_one {wb w' : World} {cb b : Nat} {s : ByteArray} {ub : Nat} {us : List Value} {K2 : List Blk} {F : Except (Nat × Int) (List Pm)} {e : Ending} (h : FldP wb cb s ((ub, 32, us) :: K2) b F e w') : ∃ (A : Option Addr) (n c : Nat) (z : Nat) (kk : Int), e = .returned (.tuple #[.slice A n c, .int .i64 z, .int .u8 kk]) ∧ Row w' ub 32 us ∧
    ((kk ≠ 0 ∧ F = .error (z, kk) ∧ Below wb.heap.size wb w') ∨ (kk = 0 ∧ z = 0 ∧ ∃ m, F = .ok m ∧ PK wb cb s b m (.slice A n c) ((ub, 32, us) :: K2) w')) := by
  cases F with
  | error q => obtain ⟨rfl, h2, h3, h4⟩ := h; exact ⟨none, 0, 0, q.1, q.2, rfl, h3 (ub, 32, us) (by simp), .inl ⟨h4, rfl, h2⟩⟩
  | ok m =>
    obtain ⟨v, rfl, h2⟩ := h
    obtain ⟨A, c, hv, _⟩ := h2.form
    subst hv
    exact ⟨A, _, c, 0, 0, rfl, h2.k (ub, 32, us) (by simp), .inr ⟨rfl, rfl, m, rfl, h2⟩⟩
/-- The rows at the end. -/
structure SR (wb : World) (ub : Nat) (us : List Value) (K : List Blk) (W : World) : Prop where
  u : Row W ub 32 us
  k : ∀ r ∈ K, Row W r.1 r.2.1 r.2.2
  b : Below wb.heap.size wb W
theorem SR.call {wb W W' : World} {ub : Nat} {us : List Value} {K : List Blk} (h : SR wb ub us K W) (hb : Below W.heap.size W W') : SR wb ub us K W' := ⟨h.u.below hb, fun r hr => (h.k r hr).below hb, bthen h.b hb⟩
theorem vx_put2 {wb W : World} {ub : Nat} {us : List Value} {v u4 u5 : Value} {n : Nat} {cs : List Value} (X : VX 56 3 wb v n cs W) (hr : Row W ub 32 us) (hb : Below wb.heap.size wb ((W.setCell ⟨ub, 4, none⟩ u4).setCell ⟨ub, 5, none⟩ u5)) : VX 56 3 wb v n cs ((W.setCell ⟨ub, 4, none⟩ u4).setCell ⟨ub, 5, none⟩ u5) :=
  X.other hb fun g hg => by
    have hne := rowT_nv hr X (by decide) g hg
    rw [Below.heap_setCell _ ⟨ub, 5, none⟩ u5 g hne, Below.heap_setCell _ ⟨ub, 4, none⟩ u4 g hne]
theorem vx_res {w wb w7 w9 : World} {T : TypeId} {sz n : Nat} {v : Value} {cs : List Value} (X : VX T sz wb v n cs w7) (WB : Below w.heap.size w wb) (hs : w.heap.size < wb.heap.size) (hg : w7.grownBy w9 (some w.heap.size)) (hb : Below w.heap.size w w9) : VX T sz w v n cs w9 :=
  (X.base WB).other hb fun g hg2 => hg.block g (X.own_lt hg2) (fun e => by injection e with e; have := own_block X.o g hg2; omega)
/-- What stands at the switch's end. -/
def SwR (wb : World) (cb ub : Nat) (s : ByteArray) (sc : List Int) (R : Except (Nat × Int) Uri) (v8 v9 v10 : Value) (wx : World) : Prop :=
  ∃ (stb : ByteArray) (st us ho : List Int) (po : Int), v10 = .string stb ∧ Hid (STP stb st) ∧ ∃ g, g ≤ s.size + 1 ∧ Lp1 wb cb ub s st sc us ho po R g v8 v9 wx
end Go.Proofs.YthfonniieaiocaaGreatDoor
