/- Contracts: FixDay. -/
import Derived.Test.YtfajmlkiidnhlaaGreatQ3V
import Derived.Test.YtfajmlkiidnhlaaGreatQ3G
import Derived.Deep.DeepCutAuto
namespace Go.Proofs.YtfajmlkiidnhlaaGreat
set_option linter.unusedVariables false
set_option linter.unusedSimpArgs false
open Go.RowKit
attribute [local go_sem] cell_onto

def InVar (n : Net) (v d : Int) : Prop := (0 ≤ v ∧ v ≤ (n.sets.length : Int) - 1) ∧ DayOk d
noncomputable def fixE (n : Net) (v d : Int) : Int := bif B (NetOk n) then (bif B (InVar n v d) then (bif B (HasDay (setAt n.sets v.toNat) d) then 0 else 5) else 2) else 1
noncomputable def fixV (n : Net) (v d : Int) : Net := bif B (fixE n v d = 0) then ⟨n.sets.set v.toNat [⟨d, d⟩], n.links⟩ else noNet
theorem fixV_no {n : Net} {v d c : Int} (h : fixE n v d = c) (h0 : c ≠ 0) : fixV n v d = noNet := by unfold fixV; rw [B_false (by omega)]; rfl
theorem fix_net {n : Net} {v d : Int} (h : ¬ NetOk n) : fixV n v d = noNet ∧ fixE n v d = 1 := by
  have e : fixE n v d = 1 := by unfold fixE; rw [B_false h]; rfl
  exact ⟨fixV_no e (by omega), e⟩
theorem fix_range {n : Net} {v d : Int} (h : NetOk n) (h2 : ¬ InVar n v d) : fixV n v d = noNet ∧ fixE n v d = 2 := by
  have e : fixE n v d = 2 := by unfold fixE; rw [B_true h, B_false h2]; rfl
  exact ⟨fixV_no e (by omega), e⟩
theorem fix_day {n : Net} {v d : Int} (h : NetOk n) (h2 : 0 ≤ v ∧ v ≤ (n.sets.length : Int) - 1) (h3 : DayOk d) (h4 : ¬ HasDay (setAt n.sets v.toNat) d) : fixV n v d = noNet ∧ fixE n v d = 5 := by
  have e : fixE n v d = 5 := by unfold fixE; rw [B_true h, B_true (show InVar n v d from ⟨h2, h3⟩), B_false h4]; rfl
  exact ⟨fixV_no e (by omega), e⟩
theorem fix_ok {n : Net} {v d : Int} (h : NetOk n) (h2 : 0 ≤ v ∧ v ≤ (n.sets.length : Int) - 1) (h3 : DayOk d) (h4 : HasDay (setAt n.sets v.toNat) d) : fixV n v d = ⟨n.sets.set v.toNat [⟨d, d⟩], n.links⟩ ∧ fixE n v d = 0 := by
  have e : fixE n v d = 0 := by unfold fixE; rw [B_true h, B_true (show InVar n v d from ⟨h2, h3⟩), B_true h4]; rfl
  exact ⟨by unfold fixV; rw [B_true e]; rfl, e⟩
theorem fixV_small (n : Net) (v d : Int) (h : Small n) : Small (fixV n v d) := by
  have hn : Small noNet := ⟨by simp [noNet], by simp [noNet], fun i hi => absurd hi (by simp [noNet])⟩
  unfold fixV
  by_cases h0 : fixE n v d = 0
  · rw [B_true h0]
    refine ⟨by simp; exact h.1, h.2.1, fun i hi => ?_⟩
    simp only [cond_true, List.length_set] at hi ⊢
    by_cases hv : v.toNat < n.sets.length
    · rw [setAt_set _ _ _ hv]
      split
      · simp
      · exact h.2.2 i hi
    · rw [List.set_eq_of_length_le (by omega)]
      exact h.2.2 i hi
  · rw [B_false h0]
    exact hn

set_option maxRecDepth 100000 in
set_option maxHeartbeats 4000000 in
theorem impl_FixDay (s k : Value) (n : Net) (v d : Int) (w : World) (h : NetIn w s k n) :
    Calls Tryz.prog 28 #[.agg #[s, k], .int .i64 v, .int .i64 d] w (NewNet2 (fixV n v d) (fixE n v d) w) := by
  obtain ⟨As, cs, rfl, hns, hcs⟩ := h.1.len
  obtain ⟨Ak, ck, rfl, hnk, hck⟩ := h.2.len
  have H := Lib.hid h
  clear h
  go_enter Tryz.func28, Tryz.ntmps28
  go_wp2_with fail
  refine Calls.mono (impl_IsNetwork _ _ n _ (H.out.up (by repeat (first | exact Ext.refl _ | assumption | refine Ext.alloc ?_ _ | refine Ext.drew ?_ | refine Ext.drewN ?_ _ | refine Ext.setCell ?_ (by first | (simp; done) | (simp; omega) | omega) _ | refine Ext.trans ?_ (by assumption))))) ?_
  rintro e w1 ⟨rfl, hx1⟩
  have hx : Ext w w1 := (by repeat (first | exact Ext.refl _ | assumption | refine Ext.alloc ?_ _ | refine Ext.drew ?_ | refine Ext.drewN ?_ _ | refine Ext.setCell ?_ (by first | (simp; done) | (simp; omega) | omega) _ | refine Ext.trans ?_ (by assumption)))
  have hz1 : w.heap.size + 1 < w1.heap.size := by have := hx1.size; simp at this; omega
  have hb := (Boxed.new w [.slice As n.sets.length cs, .slice Ak n.links.length ck] 27).ext (((Ext.refl _).alloc _).trans hx1); have hb0 := hb.at0; have hb1 := hb.at1; have hbg := hb.1; have Hhb := Lib.hid hb; clear hb
  have Hrb : Hid (Boxed w1 (w.heap.size + 1) [.slice none 0 0, .slice none 0 0]) := Lib.hid (by
    have := (Boxed.new (w.alloc (.cells #[.slice As n.sets.length cs, .slice Ak n.links.length ck] 27)) [.slice none 0 0, .slice none 0 0] 27).ext hx1
    rwa [World.size_alloc] at this)
  have rb := Hrb.out; have rb0 := rb.at0; have rb1 := rb.at1; have rbg := rb.1; have Hrb := Lib.hid rb; clear rb
  have rf0 := Hrb.out.fz 0 (by simp)
  have rf1 := Hrb.out.fz 1 (by simp)
  clear hx1
  by_cases hok : NetOk n
  · have Hok := Lib.hid hok
    have hq := B_true hok
    clear hok
    rw [hq]
    clear hq
    have h8 := Hok.out.1
    have h20 := Hok.out.2.1
    go_wp2_with fail
    refine Calls.mono (impl_within v 0 ((n.sets.length : Int) - 1) _) ?_
    rintro e w' ⟨rfl, rfl⟩
    by_cases hv : 0 ≤ v ∧ v ≤ (n.sets.length : Int) - 1
    · have Hv := Lib.hid hv
      have hq := B_true hv
      rw [hq]
      clear hq
      obtain ⟨hv0, hv1⟩ := hv
      go_wp2_with fail
      refine Calls.mono (impl_isDay d _) ?_
      rintro e w' ⟨rfl, rfl⟩
      by_cases hd : DayOk d
      · have Hd := Lib.hid hd
        have hq := B_true hd
        rw [hq]
        clear hq hd
        have hvl : v.toNat < n.sets.length := by omega
        have hvN : v < (n.sets.length : Int) := by omega
        obtain ⟨b, off, u, rfl, _, hb, h1, h2⟩ := (H.out.1.ext hx (Nat.le_refl _)).at_ hvl
        have H2 := Lib.hid h2
        clear h2
        go_wp2_with fail
        refine Calls.mono (impl_hasDay u (setAt n.sets v.toNat) d _ (H2.out.upAt hx.size (by repeat (first | exact Ext.refl _ | assumption | refine Ext.alloc ?_ _ | refine Ext.drew ?_ | refine Ext.drewN ?_ _ | refine Ext.setCell ?_ (by first | (simp; done) | (simp; omega) | omega) _ | refine Ext.trans ?_ (by assumption))))) ?_
        rintro e w2 ⟨rfl, hx2⟩
        have h12 := Lib.hid (show Ext w1 w2 from (by repeat (first | exact Ext.refl _ | assumption | refine Ext.alloc ?_ _ | refine Ext.drew ?_ | refine Ext.drewN ?_ _ | refine Ext.setCell ?_ (by first | (simp; done) | (simp; omega) | omega) _ | refine Ext.trans ?_ (by assumption))))
        have hxx : Ext w w2 := hx.trans h12.out
        have hz2 : w1.heap.size ≤ w2.heap.size := h12.out.size
        clear hb0 hb1 hbg rb0 rb1 rbg rf0 rf1 hx hx2 h1 H2
        have Hhb1 := Lib.hid (Hhb.out.ext h12.out)
        have Hrb1 := Lib.hid (Hrb.out.ext h12.out)
        clear Hhb Hrb h12
        have hb := Hhb1.out; have hb0 := hb.at0; have hb1 := hb.at1; have hbg := hb.1; have Hhb := Lib.hid hb; clear hb
        have rb := Hrb1.out; have rb0 := rb.at0; have rb1 := rb.at1; have rbg := rb.1; have Hrb := Lib.hid rb; clear rb
        have rf0 := Hrb.out.fz 0 (by simp)
        have rf1 := Hrb.out.fz 1 (by simp)
        by_cases hh : HasDay (setAt n.sets v.toNat) d
        · have Hh := Lib.hid hh
          have hq := B_true hh
          rw [hq]
          clear hq hh
          go_wp2_with fail
          refine Calls.mono (impl_ownNetwork _ _ n _ (H.out.up (by repeat (first | exact Ext.refl _ | assumption | refine Ext.alloc ?_ _ | refine Ext.drew ?_ | refine Ext.drewN ?_ _ | refine Ext.setCell ?_ (by first | (simp; done) | (simp; omega) | omega) _ | refine Ext.trans ?_ (by assumption)))) Hok.out.small) ?_
          rintro e w3 ⟨os, ok', a0, b0, rfl, hx3, ha0, hab, hb0', hos, hk3, hkg⟩
          obtain ⟨Ao, co, rfl⟩ := hos.len
          obtain ⟨Aq, cq, rfl⟩ := ownsRow_len hk3
          have hz3 := hx3.size
          have Hx3 := Lib.hid hx3
          have Hk3 := Lib.hid hk3
          have Hkg := Lib.hid hkg
          have Hrb3 := Lib.hid (Hrb.out.ext hx3)
          clear hb0 hb1 hbg rb0 rb1 rbg rf0 rf1 Hhb Hrb hk3 hkg
          obtain ⟨w4, hw4⟩ : ∃ w4 : World, w4 = (w3.alloc (.cells #[.slice Ao n.sets.length co, .slice Aq n.links.length cq] 27)).alloc (.cells #[.int .i64 d, .int .i64 d] 89) := ⟨_, rfl⟩
          have hx34 : Ext w3 w4 := by rw [hw4]; exact (by repeat (first | exact Ext.refl _ | assumption | refine Ext.alloc ?_ _ | refine Ext.drew ?_ | refine Ext.drewN ?_ _ | refine Ext.setCell ?_ (by first | (simp; done) | (simp; omega) | omega) _ | refine Ext.trans ?_ (by assumption)))
          have hz4 : w4.heap.size = w3.heap.size + 1 + 1 := by rw [hw4]; simp
          have hu4 : Own w4 (w3.heap.size + 1) 2 (.slice (some ⟨w3.heap.size + 1, 0, none⟩) 1 1) 1 (spanCell [⟨d, d⟩]) := by
            have := (Boxed.new (w3.alloc (.cells #[.slice Ao n.sets.length co, .slice Aq n.links.length cq] 27)) [.int .i64 d, .int .i64 d] 89).own rfl (span_cells d d)
            rw [World.size_alloc] at this
            rw [hw4]
            exact this
          obtain ⟨g0, off0, rfl, hl0, hg0, ⟨z, hz⟩, hzf, hput⟩ := hos.put (x := [⟨d, d⟩]) hvl hx34 hb0' hu4 (fun _ => by omega)
          have Hput := Lib.hid hput
          have hg3 : g0 < w3.heap.size := by omega
          have hcell : w3.cell? ⟨g0, off0 + v.toNat, none⟩ = some z := (hx34.cell (p := ⟨g0, off0 + v.toNat, none⟩) hg3).symm.trans hz
          have hfz : w3.frozen? ⟨g0, off0 + v.toNat, none⟩ = false := (hx34.frozen (p := ⟨g0, off0 + v.toNat, none⟩) hg3).symm.trans hzf
          have Hw4 := Lib.hid hw4
          have Hz4 := Lib.hid hz4
          clear hput hos hu4 hz hzf hw4 hz4
          have hob : Boxed w4 w3.heap.size [.slice (some ⟨g0, off0, none⟩) n.sets.length co, .slice Aq n.links.length cq] := by
            rw [Hw4.out]; exact (Boxed.new w3 [.slice (some ⟨g0, off0, none⟩) n.sets.length co, .slice Aq n.links.length cq] 27).ext ((Ext.refl _).alloc _)
          have Hob := Lib.hid hob
          have rb := Hrb3.out; have rb0 := rb.at0; have rb1 := rb.at1; have rbg := rb.1; have Hrb := Lib.hid rb; clear rb
          have rf0 := Hrb.out.fz 0 (by simp)
          have rf1 := Hrb.out.fz 1 (by simp)
          clear hob
          go_upto_region 9 with fail
          obtain ⟨w5, hw5⟩ : ∃ w5 : World, w5 = w4.setCell ⟨g0, off0 + v.toNat, none⟩ (.slice (some ⟨w3.heap.size + 1, 0, none⟩) 1 1) := ⟨_, rfl⟩
          have hsp := hw5
          rw [Hw4.out, World.setCell_alloc_past _ _ _ _ (by simp; omega), World.setCell_alloc_past _ _ _ _ hg3] at hsp
          rw [← hsp]
          clear hsp
          have hput5 := Hput.out
          rw [← hw5] at hput5
          have hz4 := Hz4.out
          have hz5 : w4.heap.size = w5.heap.size := by rw [hw5]; simp [World.setCell]
          have hO5 : Off (fun k => k = g0) w4 w5 := by rw [hw5]; exact Off.setCell (S := fun k => k = g0) (p := ⟨g0, off0 + v.toNat, none⟩) (Off.refl _ _) (.inl rfl) _
          have hob5 := Hob.out.off hO5 (fun hh => by omega)
          have hrb5 := (Hrb.out.ext hx34).off hO5 (fun hh => by omega)
          have hk5 := ownsRow_off (row_ext Hk3.out hx34) hO5 (fun g hg hh => by have := Hkg.out g hg; omega)
          have hx5 : Ext w w5 := (hxx.trans (Hx3.out.trans hx34)).off hO5 (fun k hk hh => by omega)
          have Hput5 := Lib.hid hput5
          have Hk5 := Lib.hid hk5
          clear hput5 hk5 hO5 hw5 rb0 rb1 rbg rf0 rf1 Hrb Hob Hput Hk3 Hrb3 hx34
          have ob := hob5; have ob0 := ob.at0; have ob1 := ob.at1; have obg := ob.1; have Hob := Lib.hid ob; clear ob
          have rb := hrb5; have rb0 := rb.at0; have rb1 := rb.at1; have rbg := rb.1; have Hrb := Lib.hid rb; clear rb
          have rf0 := Hrb.out.fz 0 (by simp)
          have rf1 := Hrb.out.fz 1 (by simp)
          clear hob5 hrb5
          have hne1 : ¬ (w3.heap.size = w.heap.size + 1) := by omega
          have hne2 : ¬ (w.heap.size + 1 = w3.heap.size) := by omega
          have Hz := Lib.hid hz5
          clear hz5 hz4
          go_wp2_with fail
          refine bodyPost_ret (v := .tuple #[.agg #[.slice (some ⟨g0, off0, none⟩) n.sets.length co, .slice Aq n.links.length cq], .int .i64 0]) (by simp [results, Tryz.results28, go_sem, *]) rfl ?_
          rw [(fix_ok Hok.out Hv.out Hd.out Hh.out).1, (fix_ok Hok.out Hv.out Hd.out Hh.out).2]
          have hO : Off (fun k => k = w.heap.size + 1) w5 ((w5.setCell ⟨w.heap.size + 1, 0, none⟩ (.slice (some ⟨g0, off0, none⟩) n.sets.length co)).setCell ⟨w.heap.size + 1, 1, none⟩ (.slice Aq n.links.length cq)) :=
            Off.setCell (S := fun k => k = w.heap.size + 1) (p := ⟨w.heap.size + 1, 1, none⟩) (Off.setCell (S := fun k => k = w.heap.size + 1) (p := ⟨w.heap.size + 1, 0, none⟩) (Off.refl _ _) (.inl rfl) _) (.inl rfl) _
          have hzO := hO.size
          have hz5 := Hz.out
          have hz4 := Hz4.out
          refine ⟨_, _, rfl, hx5.off hO (fun k hk hh => by omega), ?_⟩
          have hq := ownNet_of (lo := w.heap.size) (n := ⟨n.sets.set v.toNat [⟨d, d⟩], n.links⟩) (a := a0) (b := w4.heap.size) (s := .slice (some ⟨g0, off0, none⟩) n.sets.length co) (Hput5.out.off hO (fun k h1 h2 hh => by omega)) (ownsRow_mono (ownsRow_off Hk5.out hO (fun g hg hh => by have := (Hk5.out.lt g hg).1; omega)) (by omega)) (by omega) (by omega) (fun g hg hh => by have := Hkg.out g hg; omega)
          exact hq
        · have Hh := Lib.hid hh
          have hq := B_false hh
          rw [hq]
          clear hq hh
          go_wp2_with fail
          refine bodyPost_ret (v := .tuple #[.agg #[.slice none 0 0, .slice none 0 0], .int .i64 5]) (by simp [results, Tryz.results28, go_sem, *]) rfl ?_
          rw [(fix_day Hok.out Hv.out Hd.out Hh.out).1, (fix_day Hok.out Hv.out Hd.out Hh.out).2]
          exact NewNet2.nil 5 (by repeat (first | exact Ext.refl _ | assumption | refine Ext.alloc ?_ _ | refine Ext.drew ?_ | refine Ext.drewN ?_ _ | refine Ext.setCell ?_ (by first | (simp; done) | (simp; omega) | omega) _ | refine Ext.trans ?_ (by assumption)))
      · have Hd := Lib.hid hd
        have hq := B_false hd
        rw [hq]
        clear hq hd
        go_wp2_with fail
        refine bodyPost_ret (v := .tuple #[.agg #[.slice none 0 0, .slice none 0 0], .int .i64 2]) (by simp [results, Tryz.results28, go_sem, *]) rfl ?_
        rw [(fix_range Hok.out (fun hh => Hd.out hh.2)).1, (fix_range Hok.out (fun hh => Hd.out hh.2)).2]
        exact NewNet2.nil 2 (by repeat (first | exact Ext.refl _ | assumption | refine Ext.alloc ?_ _ | refine Ext.drew ?_ | refine Ext.drewN ?_ _ | refine Ext.setCell ?_ (by first | (simp; done) | (simp; omega) | omega) _ | refine Ext.trans ?_ (by assumption)))
    · have Hv := Lib.hid hv
      have hq := B_false hv
      rw [hq]
      clear hq hv
      go_wp2_with fail
      refine bodyPost_ret (v := .tuple #[.agg #[.slice none 0 0, .slice none 0 0], .int .i64 2]) (by simp [results, Tryz.results28, go_sem, *]) rfl ?_
      rw [(fix_range Hok.out (fun hh => Hv.out hh.1)).1, (fix_range Hok.out (fun hh => Hv.out hh.1)).2]
      exact NewNet2.nil 2 (by repeat (first | exact Ext.refl _ | assumption | refine Ext.alloc ?_ _ | refine Ext.drew ?_ | refine Ext.drewN ?_ _ | refine Ext.setCell ?_ (by first | (simp; done) | (simp; omega) | omega) _ | refine Ext.trans ?_ (by assumption)))
  · have Hok := Lib.hid hok
    have hq := B_false hok
    clear hok
    rw [hq]
    clear hq
    go_wp2_with fail
    refine bodyPost_ret (v := .tuple #[.agg #[.slice none 0 0, .slice none 0 0], .int .i64 1]) (by simp [results, Tryz.results28, go_sem, *]) rfl ?_
    rw [(fix_net Hok.out).1, (fix_net Hok.out).2]
    exact NewNet2.nil 1 (by repeat (first | exact Ext.refl _ | assumption | refine Ext.alloc ?_ _ | refine Ext.drew ?_ | refine Ext.drewN ?_ _ | refine Ext.setCell ?_ (by first | (simp; done) | (simp; omega) | omega) _ | refine Ext.trans ?_ (by assumption)))

set_option maxRecDepth 100000 in
set_option maxHeartbeats 4000000 in
theorem spec_FixDay (s k : Value) (n : Net) (v d : Int) (w : World) (h : NetIn w s k n) :
    Calls Tryz.prog 29 #[.agg #[s, k], .int .i64 v, .int .i64 d] w (NewNet2 (fixV n v d) (fixE n v d) w) := by
  obtain ⟨As, cs, rfl, hns, hcs⟩ := h.1.len
  obtain ⟨Ak, ck, rfl, hnk, hck⟩ := h.2.len
  have H := Lib.hid h
  clear h
  go_enter Tryz.func29, Tryz.ntmps29
  go_wp2_with fail
  refine Calls.mono (spec_IsNetwork _ _ n _ (H.out.up (by repeat (first | exact Ext.refl _ | assumption | refine Ext.alloc ?_ _ | refine Ext.drew ?_ | refine Ext.drewN ?_ _ | refine Ext.setCell ?_ (by first | (simp; done) | (simp; omega) | omega) _ | refine Ext.trans ?_ (by assumption))))) ?_
  rintro e w1 ⟨rfl, hx1⟩
  have hx : Ext w w1 := (by repeat (first | exact Ext.refl _ | assumption | refine Ext.alloc ?_ _ | refine Ext.drew ?_ | refine Ext.drewN ?_ _ | refine Ext.setCell ?_ (by first | (simp; done) | (simp; omega) | omega) _ | refine Ext.trans ?_ (by assumption)))
  have hz1 : w.heap.size + 1 < w1.heap.size := by have := hx1.size; simp at this; omega
  have hb := (Boxed.new w [.slice As n.sets.length cs, .slice Ak n.links.length ck] 27).ext (((Ext.refl _).alloc _).trans hx1); have hb0 := hb.at0; have hb1 := hb.at1; have hbg := hb.1; have Hhb := Lib.hid hb; clear hb
  have Hrb : Hid (Boxed w1 (w.heap.size + 1) [.slice none 0 0, .slice none 0 0]) := Lib.hid (by
    have := (Boxed.new (w.alloc (.cells #[.slice As n.sets.length cs, .slice Ak n.links.length ck] 27)) [.slice none 0 0, .slice none 0 0] 27).ext hx1
    rwa [World.size_alloc] at this)
  have rb := Hrb.out; have rb0 := rb.at0; have rb1 := rb.at1; have rbg := rb.1; have Hrb := Lib.hid rb; clear rb
  have rf0 := Hrb.out.fz 0 (by simp)
  have rf1 := Hrb.out.fz 1 (by simp)
  clear hx1
  by_cases hok : NetOk n
  · have Hok := Lib.hid hok
    have hq := B_true hok
    clear hok
    rw [hq]
    clear hq
    have h8 := Hok.out.1
    have h20 := Hok.out.2.1
    go_wp2_with fail
    refine Calls.mono (spec_l01In v 0 ((n.sets.length : Int) - 1) _) ?_
    rintro e w' ⟨rfl, rfl⟩
    by_cases hv : 0 ≤ v ∧ v ≤ (n.sets.length : Int) - 1
    · have Hv := Lib.hid hv
      have hq := B_true hv
      rw [hq]
      clear hq
      obtain ⟨hv0, hv1⟩ := hv
      go_wp2_with fail
      refine Calls.mono (spec_l01Day d _) ?_
      rintro e w' ⟨rfl, rfl⟩
      by_cases hd : DayOk d
      · have Hd := Lib.hid hd
        have hq := B_true hd
        rw [hq]
        clear hq hd
        have hvl : v.toNat < n.sets.length := by omega
        have hvN : v < (n.sets.length : Int) := by omega
        obtain ⟨b, off, u, rfl, _, hb, h1, h2⟩ := (H.out.1.ext hx (Nat.le_refl _)).at_ hvl
        have H2 := Lib.hid h2
        clear h2
        go_wp2_with fail
        refine Calls.mono (spec_l02Has u (setAt n.sets v.toNat) d _ (H2.out.upAt hx.size (by repeat (first | exact Ext.refl _ | assumption | refine Ext.alloc ?_ _ | refine Ext.drew ?_ | refine Ext.drewN ?_ _ | refine Ext.setCell ?_ (by first | (simp; done) | (simp; omega) | omega) _ | refine Ext.trans ?_ (by assumption))))) ?_
        rintro e w2 ⟨rfl, hx2⟩
        have h12 := Lib.hid (show Ext w1 w2 from (by repeat (first | exact Ext.refl _ | assumption | refine Ext.alloc ?_ _ | refine Ext.drew ?_ | refine Ext.drewN ?_ _ | refine Ext.setCell ?_ (by first | (simp; done) | (simp; omega) | omega) _ | refine Ext.trans ?_ (by assumption))))
        have hxx : Ext w w2 := hx.trans h12.out
        have hz2 : w1.heap.size ≤ w2.heap.size := h12.out.size
        clear hb0 hb1 hbg rb0 rb1 rbg rf0 rf1 hx hx2 h1 H2
        have Hhb1 := Lib.hid (Hhb.out.ext h12.out)
        have Hrb1 := Lib.hid (Hrb.out.ext h12.out)
        clear Hhb Hrb h12
        have hb := Hhb1.out; have hb0 := hb.at0; have hb1 := hb.at1; have hbg := hb.1; have Hhb := Lib.hid hb; clear hb
        have rb := Hrb1.out; have rb0 := rb.at0; have rb1 := rb.at1; have rbg := rb.1; have Hrb := Lib.hid rb; clear rb
        have rf0 := Hrb.out.fz 0 (by simp)
        have rf1 := Hrb.out.fz 1 (by simp)
        by_cases hh : HasDay (setAt n.sets v.toNat) d
        · have Hh := Lib.hid hh
          have hq := B_true hh
          rw [hq]
          clear hq hh
          go_wp2_with fail
          refine Calls.mono (spec_l18Own _ _ n _ (H.out.up (by repeat (first | exact Ext.refl _ | assumption | refine Ext.alloc ?_ _ | refine Ext.drew ?_ | refine Ext.drewN ?_ _ | refine Ext.setCell ?_ (by first | (simp; done) | (simp; omega) | omega) _ | refine Ext.trans ?_ (by assumption)))) Hok.out.small) ?_
          rintro e w3 ⟨os, ok', a0, b0, rfl, hx3, ha0, hab, hb0', hos, hk3, hkg⟩
          obtain ⟨Ao, co, rfl⟩ := hos.len
          obtain ⟨Aq, cq, rfl⟩ := ownsRow_len hk3
          have hz3 := hx3.size
          have Hx3 := Lib.hid hx3
          have Hk3 := Lib.hid hk3
          have Hkg := Lib.hid hkg
          have Hrb3 := Lib.hid (Hrb.out.ext hx3)
          clear hb0 hb1 hbg rb0 rb1 rbg rf0 rf1 Hhb Hrb hk3 hkg
          obtain ⟨w4, hw4⟩ : ∃ w4 : World, w4 = (w3.alloc (.cells #[.slice Ao n.sets.length co, .slice Aq n.links.length cq] 27)).alloc (.cells #[.int .i64 d, .int .i64 d] 89) := ⟨_, rfl⟩
          have hx34 : Ext w3 w4 := by rw [hw4]; exact (by repeat (first | exact Ext.refl _ | assumption | refine Ext.alloc ?_ _ | refine Ext.drew ?_ | refine Ext.drewN ?_ _ | refine Ext.setCell ?_ (by first | (simp; done) | (simp; omega) | omega) _ | refine Ext.trans ?_ (by assumption)))
          have hz4 : w4.heap.size = w3.heap.size + 1 + 1 := by rw [hw4]; simp
          have hu4 : Own w4 (w3.heap.size + 1) 2 (.slice (some ⟨w3.heap.size + 1, 0, none⟩) 1 1) 1 (spanCell [⟨d, d⟩]) := by
            have := (Boxed.new (w3.alloc (.cells #[.slice Ao n.sets.length co, .slice Aq n.links.length cq] 27)) [.int .i64 d, .int .i64 d] 89).own rfl (span_cells d d)
            rw [World.size_alloc] at this
            rw [hw4]
            exact this
          obtain ⟨g0, off0, rfl, hl0, hg0, ⟨z, hz⟩, hzf, hput⟩ := hos.put (x := [⟨d, d⟩]) hvl hx34 hb0' hu4 (fun _ => by omega)
          have Hput := Lib.hid hput
          have hg3 : g0 < w3.heap.size := by omega
          have hcell : w3.cell? ⟨g0, off0 + v.toNat, none⟩ = some z := (hx34.cell (p := ⟨g0, off0 + v.toNat, none⟩) hg3).symm.trans hz
          have hfz : w3.frozen? ⟨g0, off0 + v.toNat, none⟩ = false := (hx34.frozen (p := ⟨g0, off0 + v.toNat, none⟩) hg3).symm.trans hzf
          have Hw4 := Lib.hid hw4
          have Hz4 := Lib.hid hz4
          clear hput hos hu4 hz hzf hw4 hz4
          have hob : Boxed w4 w3.heap.size [.slice (some ⟨g0, off0, none⟩) n.sets.length co, .slice Aq n.links.length cq] := by
            rw [Hw4.out]; exact (Boxed.new w3 [.slice (some ⟨g0, off0, none⟩) n.sets.length co, .slice Aq n.links.length cq] 27).ext ((Ext.refl _).alloc _)
          have Hob := Lib.hid hob
          have rb := Hrb3.out; have rb0 := rb.at0; have rb1 := rb.at1; have rbg := rb.1; have Hrb := Lib.hid rb; clear rb
          have rf0 := Hrb.out.fz 0 (by simp)
          have rf1 := Hrb.out.fz 1 (by simp)
          clear hob
          go_upto_region 9 with fail
          obtain ⟨w5, hw5⟩ : ∃ w5 : World, w5 = w4.setCell ⟨g0, off0 + v.toNat, none⟩ (.slice (some ⟨w3.heap.size + 1, 0, none⟩) 1 1) := ⟨_, rfl⟩
          have hsp := hw5
          rw [Hw4.out, World.setCell_alloc_past _ _ _ _ (by simp; omega), World.setCell_alloc_past _ _ _ _ hg3] at hsp
          rw [← hsp]
          clear hsp
          have hput5 := Hput.out
          rw [← hw5] at hput5
          have hz4 := Hz4.out
          have hz5 : w4.heap.size = w5.heap.size := by rw [hw5]; simp [World.setCell]
          have hO5 : Off (fun k => k = g0) w4 w5 := by rw [hw5]; exact Off.setCell (S := fun k => k = g0) (p := ⟨g0, off0 + v.toNat, none⟩) (Off.refl _ _) (.inl rfl) _
          have hob5 := Hob.out.off hO5 (fun hh => by omega)
          have hrb5 := (Hrb.out.ext hx34).off hO5 (fun hh => by omega)
          have hk5 := ownsRow_off (row_ext Hk3.out hx34) hO5 (fun g hg hh => by have := Hkg.out g hg; omega)
          have hx5 : Ext w w5 := (hxx.trans (Hx3.out.trans hx34)).off hO5 (fun k hk hh => by omega)
          have Hput5 := Lib.hid hput5
          have Hk5 := Lib.hid hk5
          clear hput5 hk5 hO5 hw5 rb0 rb1 rbg rf0 rf1 Hrb Hob Hput Hk3 Hrb3 hx34
          have ob := hob5; have ob0 := ob.at0; have ob1 := ob.at1; have obg := ob.1; have Hob := Lib.hid ob; clear ob
          have rb := hrb5; have rb0 := rb.at0; have rb1 := rb.at1; have rbg := rb.1; have Hrb := Lib.hid rb; clear rb
          have rf0 := Hrb.out.fz 0 (by simp)
          have rf1 := Hrb.out.fz 1 (by simp)
          clear hob5 hrb5
          have hne1 : ¬ (w3.heap.size = w.heap.size + 1) := by omega
          have hne2 : ¬ (w.heap.size + 1 = w3.heap.size) := by omega
          have Hz := Lib.hid hz5
          clear hz5 hz4
          go_wp2_with fail
          refine bodyPost_ret (v := .tuple #[.agg #[.slice (some ⟨g0, off0, none⟩) n.sets.length co, .slice Aq n.links.length cq], .int .i64 0]) (by simp [results, Tryz.results29, go_sem, *]) rfl ?_
          rw [(fix_ok Hok.out Hv.out Hd.out Hh.out).1, (fix_ok Hok.out Hv.out Hd.out Hh.out).2]
          have hO : Off (fun k => k = w.heap.size + 1) w5 ((w5.setCell ⟨w.heap.size + 1, 0, none⟩ (.slice (some ⟨g0, off0, none⟩) n.sets.length co)).setCell ⟨w.heap.size + 1, 1, none⟩ (.slice Aq n.links.length cq)) :=
            Off.setCell (S := fun k => k = w.heap.size + 1) (p := ⟨w.heap.size + 1, 1, none⟩) (Off.setCell (S := fun k => k = w.heap.size + 1) (p := ⟨w.heap.size + 1, 0, none⟩) (Off.refl _ _) (.inl rfl) _) (.inl rfl) _
          have hzO := hO.size
          have hz5 := Hz.out
          have hz4 := Hz4.out
          refine ⟨_, _, rfl, hx5.off hO (fun k hk hh => by omega), ?_⟩
          have hq := ownNet_of (lo := w.heap.size) (n := ⟨n.sets.set v.toNat [⟨d, d⟩], n.links⟩) (a := a0) (b := w4.heap.size) (s := .slice (some ⟨g0, off0, none⟩) n.sets.length co) (Hput5.out.off hO (fun k h1 h2 hh => by omega)) (ownsRow_mono (ownsRow_off Hk5.out hO (fun g hg hh => by have := (Hk5.out.lt g hg).1; omega)) (by omega)) (by omega) (by omega) (fun g hg hh => by have := Hkg.out g hg; omega)
          exact hq
        · have Hh := Lib.hid hh
          have hq := B_false hh
          rw [hq]
          clear hq hh
          go_wp2_with fail
          refine bodyPost_ret (v := .tuple #[.agg #[.slice none 0 0, .slice none 0 0], .int .i64 5]) (by simp [results, Tryz.results29, go_sem, *]) rfl ?_
          rw [(fix_day Hok.out Hv.out Hd.out Hh.out).1, (fix_day Hok.out Hv.out Hd.out Hh.out).2]
          exact NewNet2.nil 5 (by repeat (first | exact Ext.refl _ | assumption | refine Ext.alloc ?_ _ | refine Ext.drew ?_ | refine Ext.drewN ?_ _ | refine Ext.setCell ?_ (by first | (simp; done) | (simp; omega) | omega) _ | refine Ext.trans ?_ (by assumption)))
      · have Hd := Lib.hid hd
        have hq := B_false hd
        rw [hq]
        clear hq hd
        go_wp2_with fail
        refine bodyPost_ret (v := .tuple #[.agg #[.slice none 0 0, .slice none 0 0], .int .i64 2]) (by simp [results, Tryz.results29, go_sem, *]) rfl ?_
        rw [(fix_range Hok.out (fun hh => Hd.out hh.2)).1, (fix_range Hok.out (fun hh => Hd.out hh.2)).2]
        exact NewNet2.nil 2 (by repeat (first | exact Ext.refl _ | assumption | refine Ext.alloc ?_ _ | refine Ext.drew ?_ | refine Ext.drewN ?_ _ | refine Ext.setCell ?_ (by first | (simp; done) | (simp; omega) | omega) _ | refine Ext.trans ?_ (by assumption)))
    · have Hv := Lib.hid hv
      have hq := B_false hv
      rw [hq]
      clear hq hv
      go_wp2_with fail
      refine bodyPost_ret (v := .tuple #[.agg #[.slice none 0 0, .slice none 0 0], .int .i64 2]) (by simp [results, Tryz.results29, go_sem, *]) rfl ?_
      rw [(fix_range Hok.out (fun hh => Hv.out hh.1)).1, (fix_range Hok.out (fun hh => Hv.out hh.1)).2]
      exact NewNet2.nil 2 (by repeat (first | exact Ext.refl _ | assumption | refine Ext.alloc ?_ _ | refine Ext.drew ?_ | refine Ext.drewN ?_ _ | refine Ext.setCell ?_ (by first | (simp; done) | (simp; omega) | omega) _ | refine Ext.trans ?_ (by assumption)))
  · have Hok := Lib.hid hok
    have hq := B_false hok
    clear hok
    rw [hq]
    clear hq
    go_wp2_with fail
    refine bodyPost_ret (v := .tuple #[.agg #[.slice none 0 0, .slice none 0 0], .int .i64 1]) (by simp [results, Tryz.results29, go_sem, *]) rfl ?_
    rw [(fix_net Hok.out).1, (fix_net Hok.out).2]
    exact NewNet2.nil 1 (by repeat (first | exact Ext.refl _ | assumption | refine Ext.alloc ?_ _ | refine Ext.drew ?_ | refine Ext.drewN ?_ _ | refine Ext.setCell ?_ (by first | (simp; done) | (simp; omega) | omega) _ | refine Ext.trans ?_ (by assumption)))
end Go.Proofs.YtfajmlkiidnhlaaGreat
