/- The contract of the simulated machine's take. -/
import Derived.Test.YtdooohanhekniaaSa
import Derived.Test.YtdooohanhekniaaO
import Derived.BigRegion
import Derived.Deep.DeepCutAuto
namespace Go.Proofs.Ytdooohanhekniaa
open Go.RowKit

def takeOne (σ : Sim) (o : Out) : Sim := { σ with log := σ.log ++ [⟨σ.now, o⟩], due := if o.kind = 4 ∧ o.timer < 14 then σ.due.set o.timer.toNat (σ.now + max 1 o.after) else σ.due }
def takeS (σ : Sim) (m : Mach) (l : List Out) : Sim := l.foldl takeOne { σ with m := m }
theorem takeS_snoc (σ : Sim) (m : Mach) (l : List Out) (x : Out) : takeS σ m (l ++ [x]) = takeOne (takeS σ m l) x := by simp [takeS]
theorem takeS_now (σ : Sim) (m : Mach) (l : List Out) : (takeS σ m l).now = σ.now := by
  have : ∀ (l : List Out) (τ : Sim), (l.foldl takeOne τ).now = τ.now := by
    intro l; induction l with
    | nil => intro τ; rfl
    | cons x l ih => intro τ; rw [List.foldl_cons, ih]; rfl
  exact this l _
theorem takeS_log (σ : Sim) (m : Mach) (l : List Out) : (takeS σ m l).log.length = σ.log.length + l.length := by
  have : ∀ (l : List Out) (τ : Sim), (l.foldl takeOne τ).log.length = τ.log.length + l.length := by
    intro l; induction l with
    | nil => intro τ; rfl
    | cons x l ih => intro τ; rw [List.foldl_cons, ih]; simp [takeOne]; omega
  exact this l _

def TakeP (w : World) (g : Nat) (v : Value) (σ : Sim) (e : Ending) (w' : World) : Prop := e = .returned (.tuple #[]) ∧ ∃ v', SimV w' g σ v' ∧ Mv w w' g v v'
def TakeR (w : World) (g : Nat) (v : Value) (σ : Sim) (m : Mach) (l : List Out) (i : Value) (wr : World) : Prop :=
  ∃ j : Nat, j ≤ l.length ∧ i = .int .i64 j ∧ ∃ v', SimV wr g (takeS σ m (l.take j)) v' ∧ Mv w wr g v v'
theorem infoE : (Try.prog.info? 42).map (fun i => (i.zero, i.size, i.bytes)) = some (some (.agg #[.int .i64 0, .int .u8 0, .int .i64 0, .int .u8 0, .int .i64 0]), 5, 40) := by kernel_rfl

def AppR (wr : World) (g : Nat) (v : Value) (τ : Sim) (x : Out) (wx : World) : Prop := ∃ v2, SimV wx g { τ with log := τ.log ++ [⟨τ.now, x⟩] } v2 ∧ Mv wr wx g v v2
theorem AppR.mk_ {wr w1 : World} {g gg cap : Nat} {v : Value} {τ : Sim} {x : Out} {o : Obj} (hS : SimV wr g τ v) (hown1 : w1.ownsRow 0 42 5 (.slice (some ⟨gg, 0, none⟩) (τ.log.length + 1) cap) (τ.log.length + 1) (esC τ.log ++ eC ⟨τ.now, x⟩))
    (hgrow : (wr.alloc o).drew.grownBy w1 v.ownBlock) (hat : v.ownBlock = some gg ∨ gg = wr.heap.size + 1) : AppR wr g v τ x (w1.setCell ⟨g, 18, none⟩ (.slice (some ⟨gg, 0, none⟩) (τ.log.length + 1) cap)) := by
  have hgw := hS.lt
  have hvg := hS.ne
  have hne1 : (Value.slice (some ⟨gg, 0, none⟩) (τ.log.length + 1) cap).ownBlock ≠ some g := by
    intro e
    have e' : gg = g := by injection e
    rcases hat with h | h
    · exact hvg (by rw [h, e'])
    · omega
  exact ⟨_, SimV.setLog hS hown1 ((hgrow.block g (by simp; omega) (Ne.symm hvg)).trans (Below.heap_alloc wr _ g hgw)) hne1,
    (Mv.grown (g := g) (n := τ.log.length + 1) (cap := cap) hgrow hat).setCell 18 _⟩
theorem Outs.in_ {w : World} {lo : Nat} {l : List Out} {A : Option Addr} {n c : Nat} (h : Outs w lo (.slice A n c) l) : n = l.length ∧ (0 < n → ∃ b o, A = some ⟨b, o, none⟩ ∧ lo ≤ b ∧ b < w.heap.size ∧ ∀ (j : Nat) (x : Out), l[j]? = some x →
    w.cell? ⟨b, o + j * 4, none⟩ = some (.int .u8 x.kind) ∧ w.cell? ⟨b, o + j * 4 + 1, none⟩ = some (.int .i64 x.code) ∧ w.cell? ⟨b, o + j * 4 + 2, none⟩ = some (.int .u8 x.timer) ∧ w.cell? ⟨b, o + j * 4 + 3, none⟩ = some (.int .i64 x.after)) := by
  obtain ⟨e, h1⟩ := h.at_ rfl
  refine ⟨e, fun hn => ?_⟩
  obtain ⟨b, o, rfl, hb, hc⟩ := h1 hn
  obtain ⟨_, A', c', hv', _, h2⟩ := h
  injection hv' with e1 e2 e3
  obtain ⟨b', o', e4, hlo, _, _⟩ := h2 (by omega)
  rw [← e1] at e4
  injection e4 with e5
  injection e5 with e6 e7
  exact ⟨b, o, rfl, by omega, hb, hc⟩

set_option maxRecDepth 100000 in
set_option maxHeartbeats 4000000 in
theorem take_any (g : Nat) (σ : Sim) (v : Value) (s wt mc : Int) (A : Option Addr) (n c : Nat) (l : List Out) (lo : Nat) (w : World) (hs : SimV w g σ v) (ho : Outs w lo (.slice A n c) l) (hg : g < lo) (hv : ∀ k, v.ownBlock = some k → k < lo)
    (hl : l.length ≤ 4) (hlog : σ.log.length ≤ 100000) (hn0 : 0 ≤ σ.now) (hn1 : σ.now ≤ 1000000000) (hr : ∀ o ∈ l, 0 ≤ o.timer ∧ 0 ≤ o.after ∧ o.after ≤ 100000) :
    Calls Try.prog 30 #[.pointer (some ⟨g, 0, none⟩), .agg #[.int .u8 s, .int .i64 wt, .int .i64 mc], .slice A n c] w (TakeP w g v (takeS σ ⟨s, wt, mc⟩ l)) := by
  obtain ⟨i0, hi0, hz0, hz1, hz2⟩ := info_parts infoE
  have HI := Lib.hid hi0; have HZ0 := Lib.hid hz0; have HZ1 := Lib.hid hz1; have HZ2 := Lib.hid hz2
  clear hi0 hz0 hz1 hz2
  have HL := Lib.hid ho.in_
  obtain ⟨c0, c1, c2⟩ := hs.cm
  have f0 := hs.frozen 0
  have f1 := hs.frozen 1
  have f2 := hs.frozen 2
  have hgl := hs.lt
  have HS := Lib.hid hs; have HO := Lib.hid ho; have HV := Lib.hid hv; have HR := Lib.hid hr
  have hn : n ≤ 4 := by have := HL.out.1; omega
  clear hs ho hv hr
  go_enter Try.func30, Try.ntmps30
  go_wp2
  go_loopw [6] (fun i wr => TakeR w g v σ ⟨s, wt, mc⟩ l i wr) (fun i _ => n - (intOf i).toNat)
  case atStart =>
    refine ⟨0, Nat.zero_le _, rfl, v, ?_, ?_⟩
    · exact (HS.out.setM ⟨s, wt, mc⟩).alloc _
    · exact ((((Mv.refl w g v).setCell 0 _).setCell 1 _).setCell 2 _).alloc _
  case round =>
    clear c0 c1 c2 f0 f1 f2
    obtain ⟨j, hj, rfl, v', hS, hM⟩ := hrel
    by_cases hlt : j < n
    · have hnl := HL.out.1
      obtain ⟨x, hx⟩ : ∃ x, l[j]? = some x := ⟨l[j]'(by omega), List.getElem?_eq_getElem (by omega)⟩
      obtain ⟨b, o, rfl, hlo, hb, hcb⟩ := HL.out.2 (by omega)
      obtain ⟨a0, a1, a2, a3⟩ := hcb j x hx
      have hbb : wr.heap[b]? = w.heap[b]? := hM.block b hb (by omega) (fun e => by have := HV.out b e; omega)
      have hce : ∀ o, wr.cell? ⟨b, o, none⟩ = w.cell? ⟨b, o, none⟩ := fun o => World.cell?_of_block hbb
      rw [← hce] at a0 a1 a2 a3
      obtain ⟨r0, r1, r2⟩ := HR.out x (List.mem_of_getElem? hx)
      have HX := Lib.hid (show takeS σ ⟨s, wt, mc⟩ (l.take (j + 1)) = takeOne (takeS σ ⟨s, wt, mc⟩ (l.take j)) x by
        rw [← takeS_snoc, List.take_add_one, hx]; rfl)
      have hw1 := takeS_now σ ⟨s, wt, mc⟩ (l.take j)
      have hw2 := takeS_log σ ⟨s, wt, mc⟩ (l.take j)
      rw [List.length_take] at hw2
      generalize takeS σ ⟨s, wt, mc⟩ (l.take j) = τ at *
      have t0 : 0 ≤ τ.now := by omega
      have t1 : τ.now ≤ 1000000000 := by omega
      have t2 : τ.log.length + 1 ≤ 200000 := by omega
      have hbw : b < wr.heap.size := Nat.lt_of_lt_of_le hb hM.size
      have hgw := hS.lt
      have hbg : b ≠ g := by omega
      have hbv : v'.ownBlock ≠ some b := by
        rcases hM.at_ with e | e
        · rw [e]; intro h; have := HV.out b h; omega
        · intro h; have := e b h; omega
      have c17 := hS.cnow
      have c18 := hS.clog
      have f18 := hS.frozen 18
      have hvg := hS.ne
      have SV := Lib.hid hS; have MV := Lib.hid hM
      have hjl : j + 1 ≤ l.length := by omega
      clear hS hM hce hbb hcb hx hw1 hw2 hnl
      obtain ⟨xk, xc, xt, xa⟩ := x
      simp only at a0 a1 a2 a3 r0 r1 r2
      have hji : (0 : Int) ≤ (j : Int) := Int.natCast_nonneg _
      have hjn : (j : Int) < (n : Int) := by omega
      have OW := Lib.hid SV.out.own
      clear HS HO hl hlog hn0 hn1 hgl HL HR HV hlo hb
      go_upto_region 5 with fail
      go_cut [32] (fun _ wx => AppR wr g v' τ ⟨xk, xc, xt, xa⟩ wx)
      case first =>
        go_region_law
          ((refine step_append_lies _ (by rfl) _ _ _ (by rfl) 0 42 i0 _ 5 40 Try.underlying33 HI.out HZ0.out HZ1.out HZ2.out rfl (by omega) v' τ.log.length (esC τ.log) (by rfl) ((OW.out.alloc _).drew)
              ⟨wr.heap.size, 0, none⟩ 1 1 [.int .i64 τ.now, .int .u8 xk, .int .i64 xc, .int .u8 xt, .int .i64 xa] (by rfl) (by rfl) (World.news_of_block (cs := #[.int .i64 τ.now, .int .u8 xk, .int .i64 xc, .int .u8 xt, .int .i64 xa]) (t := 42) (fr := (0, 0)) (heap_alloc_new wr _)) (by simp [Value.oneCell'])
              (by omega) (by unfold maxLen; omega) (by omega) (by simp) (wr.heap.size + 1) (by simp) ?_; intro gg cap w1 hown1 hgrow hat hgl1; have hf1 : w1.frozen? ⟨g, 18, none⟩ = false := (hgrow.frozen_far _ (by simp; omega) (Ne.symm hvg)).trans (((SV.out.alloc _).drew).frozen 18); have hc1 : w1.cell? ⟨g, 18, none⟩ = some v' := (hgrow.cell_far _ (by simp; omega) (Ne.symm hvg)).trans (((SV.out.alloc _).drew).clog)))
        all_goals (go_wp2_with fail; go_meet; exact AppR.mk_ SV.out hown1 hgrow hat)
      case rest =>
        obtain ⟨v2, S2, N2⟩ := hcut
        have M2 := MV.out.trans N2
        have hb2 := N2.block b hbw hbg hbv
        have hce : ∀ o, wc.cell? ⟨b, o, none⟩ = wr.cell? ⟨b, o, none⟩ := fun o => World.cell?_of_block hb2
        rw [← hce] at a0 a1 a2 a3
        have d17 : wc.cell? ⟨g, 17, none⟩ = some (.int .i64 τ.now) := S2.cnow
        have hgc := S2.lt
        have hbc : b < wc.heap.size := Nat.lt_of_lt_of_le hbw N2.size
        have S3 := Lib.hid S2; have M3 := Lib.hid M2
        clear hce hb2 N2 OW MV SV c17 c18 f18 S2 M2 HI HZ0 HZ1 HZ2 hbv hvg t2
        by_cases h4 : xk = 4 ∧ xt < 14
        · obtain ⟨rfl, h14⟩ := h4
          obtain ⟨t, rfl⟩ := Int.eq_ofNat_of_zero_le r0
          have ht : t < 14 := by omega
          obtain ⟨y, hy⟩ : ∃ y, τ.due[t]? = some y := ⟨τ.due[t]'(by have := S3.out.len; simp only at this; omega), List.getElem?_eq_getElem _⟩
          have c3 : wc.cell? ⟨g, 3 + t, none⟩ = some (.int .i64 y) := S3.out.cdue hy
          have f3 := S3.out.frozen (3 + t)
          have hne : ¬ (3 + t = 17) := by omega
          have hnb : ¬ (g = b) := by omega
          have hti : (0 : Int) ≤ (t : Int) := Int.natCast_nonneg _
          have k17 : ∀ z, (wc.setCell ⟨g, 3 + t, none⟩ z).cell? ⟨g, 17, none⟩ = some (.int .i64 τ.now) := fun z => (World.cell?_setCell_other _ _ _ _ (by intro e; injection e with e1 e2; omega)).trans d17
          have FIN : ∀ z, z = τ.now + max 1 xa → TakeR w g v σ ⟨s, wt, mc⟩ l (.int .i64 (j + 1 : Nat)) (wc.setCell ⟨g, 3 + t, none⟩ (.int .i64 z)).drew :=
            fun z hz => ⟨j + 1, by omega, rfl, v2, by
              have h := S3.out.setDue t ht (τ.now + max 1 xa)
              rw [HX.out, takeOne, if_pos ⟨rfl, by simpa using h14⟩, hz]
              exact h.drew, (M3.out.setCell _ _).drew⟩
          by_cases h1 : 1 < xa
          · have FIN' := Lib.hid (FIN (τ.now + xa) (by omega))
            have hw := IntWalk.i64_in (τ.now + xa) (by omega)
            clear hy HX S3 M3 FIN
            go_wp2_with fail
            go_region_held3 (fun w' => w'.cell? ⟨g, 17, none⟩ = some (.int .i64 τ.now) ∧ w'.cell? ⟨b, o + j * 4 + 2, none⟩ = some (.int .u8 t) ∧ w'.cell? ⟨b, o + j * 4 + 3, none⟩ = some (.int .i64 xa)) (go_keep) (fail)
            clear hw
            go_wp2_with fail
            go_roundw
            case rel => exact FIN'.out
            case measure => simp [intOf]; omega
          · have FIN' := Lib.hid (FIN (τ.now + 1) (by omega))
            have hw := IntWalk.i64_in (τ.now + 1) (by omega)
            have hmx : (if 1 < xa then xa else 1) = 1 := if_neg h1
            clear hy HX S3 M3 FIN
            go_wp2_with fail
            go_region_held3 (fun w' => w'.cell? ⟨g, 17, none⟩ = some (.int .i64 τ.now) ∧ w'.cell? ⟨b, o + j * 4 + 2, none⟩ = some (.int .u8 t) ∧ w'.cell? ⟨b, o + j * 4 + 3, none⟩ = some (.int .i64 xa)) (go_keep) (fail)
            clear hw hmx
            go_wp2_with fail
            go_roundw
            case rel => exact FIN'.out
            case measure => simp [intOf]; omega
        · have FIN : TakeR w g v σ ⟨s, wt, mc⟩ l (.int .i64 (j + 1 : Nat)) wc := ⟨j + 1, by omega, rfl, v2, by
              rw [HX.out, takeOne, if_neg (by simpa using h4)]
              exact S3.out, M3.out⟩
          have FIN' := Lib.hid FIN
          clear FIN HX S3 M3
          by_cases hk : xk = 4
          · have h14 : ¬ xt < 14 := fun h => h4 ⟨hk, h⟩
            subst hk
            clear h4
            go_wp2_with fail
            go_roundw
            case rel => exact FIN'.out
            case measure => simp [intOf]; omega
          · have hk' : (xk == 4) = false := by simp [hk]
            clear h4 hk
            go_wp2_with fail
            go_roundw
            case rel => exact FIN'.out
            case measure => simp [intOf]; omega
    · have hjl : j = l.length := by have := HL.out.1; omega
      have FIN := Lib.hid (show TakeP w g v (takeS σ ⟨s, wt, mc⟩ l) (.returned (.tuple #[])) wr from ⟨rfl, v', by rw [hjl, List.take_length] at hS; exact hS, hM⟩)
      obtain rfl : j = n := by have := HL.out.1; omega
      clear hS hM hjl HL
      go_wp2
      go_end0
      exact FIN.out
end Go.Proofs.Ytdooohanhekniaa
