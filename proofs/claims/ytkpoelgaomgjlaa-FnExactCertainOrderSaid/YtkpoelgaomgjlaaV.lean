/- Contracts: AddLink. -/
import Derived.Test.YtkpoelgaomgjlaaT
namespace Go.Proofs.Ytkpoelgaomgjlaa
set_option linter.unusedVariables false
set_option linter.unusedSimpArgs false
open Go.RowKit
attribute [local go_sem] cell_onto

theorem NetOk.small {n : Net} (h : NetOk n) : Small n := ⟨by have := h.1; omega, by have := h.2.1; omega, fun i hi => by have := (h.2.2.1 i hi).1; omega⟩
theorem link_cells (a b c d : Int) : ∀ i, i < 4 → [Value.int .i64 a, .int .i64 b, .int .i64 c, .int .i64 d][i]? = some (linkCell [⟨a, b, c, d⟩] i)
  | 0, _ => rfl
  | 1, _ => rfl
  | 2, _ => rfl
  | 3, _ => rfl
  | i + 4, h => absurd h (by omega)
noncomputable def addE (n : Net) (l : Lk) : Int := bif B (NetOk n) then (bif B (LkOk l n.sets.length) then (bif B (n.links.length = 20) then 3 else 0) else 2) else 1
noncomputable def addV (n : Net) (l : Lk) : Net := bif B (addE n l = 0) then ⟨n.sets, n.links ++ [l]⟩ else noNet
theorem addV_no {n : Net} {l : Lk} {c : Int} (h : addE n l = c) (h0 : c ≠ 0) : addV n l = noNet := by unfold addV; rw [B_false (by omega)]; rfl
theorem add_net {n : Net} {l : Lk} (h : ¬ NetOk n) : addV n l = noNet ∧ addE n l = 1 := by
  have e : addE n l = 1 := by unfold addE; rw [B_false h]; rfl
  exact ⟨addV_no e (by omega), e⟩
theorem add_link {n : Net} {l : Lk} (h : NetOk n) (h2 : ¬ LkOk l n.sets.length) : addV n l = noNet ∧ addE n l = 2 := by
  have e : addE n l = 2 := by unfold addE; rw [B_true h, B_false h2]; rfl
  exact ⟨addV_no e (by omega), e⟩
theorem add_many {n : Net} {l : Lk} (h : NetOk n) (h2 : LkOk l n.sets.length) (h3 : n.links.length = 20) : addV n l = noNet ∧ addE n l = 3 := by
  have e : addE n l = 3 := by unfold addE; rw [B_true h, B_true h2, B_true h3]; rfl
  exact ⟨addV_no e (by omega), e⟩
theorem add_ok {n : Net} {l : Lk} (h : NetOk n) (h2 : LkOk l n.sets.length) (h3 : ¬ n.links.length = 20) : addV n l = ⟨n.sets, n.links ++ [l]⟩ ∧ addE n l = 0 := by
  have e : addE n l = 0 := by unfold addE; rw [B_true h, B_true h2, B_false h3]; rfl
  exact ⟨by unfold addV; rw [B_true e]; rfl, e⟩
theorem addV_small (n : Net) (l : Lk) : Small (addV n l) := by
  have hn : Small noNet := ⟨by simp [noNet], by simp [noNet], fun i hi => absurd hi (by simp [noNet])⟩
  by_cases h : addE n l = 0
  · have hok : NetOk n := Classical.byContradiction (fun hh => by rw [(add_net hh).2] at h; omega)
    unfold addV
    rw [B_true h]
    have h1 := hok.small
    exact ⟨h1.1, by have := hok.2.1; simp; omega, h1.2.2⟩
  · unfold addV
    rw [B_false h]
    exact hn

set_option maxRecDepth 100000 in
set_option maxHeartbeats 4000000 in
theorem impl_AddLink (s k : Value) (n : Net) (a b c d : Int) (w : World) (h : NetIn w s k n) :
    Calls Try.prog 28 #[.agg #[s, k], .agg #[.int .i64 a, .int .i64 b, .int .i64 c, .int .i64 d]] w (NewNet2 (addV n ⟨a, b, c, d⟩) (addE n ⟨a, b, c, d⟩) w) := by
  obtain ⟨As, cs, rfl, hns, hcs⟩ := h.1.len
  obtain ⟨Ak, ck, rfl, hnk, hck⟩ := h.2.len
  have H := Lib.hid h
  clear h
  go_enter Try.func28, Try.ntmps28
  go_wp2_with fail
  refine Calls.mono (impl_IsNetwork _ _ n _ (H.out.up (by repeat (first | exact Ext.refl _ | assumption | refine Ext.alloc ?_ _ | refine Ext.drew ?_ | refine Ext.drewN ?_ _ | refine Ext.setCell ?_ (by first | (simp; done) | (simp; omega) | omega) _ | refine Ext.trans ?_ (by assumption))))) ?_
  rintro e w1 ⟨rfl, hx1⟩
  have hx : Ext w w1 := (by repeat (first | exact Ext.refl _ | assumption | refine Ext.alloc ?_ _ | refine Ext.drew ?_ | refine Ext.drewN ?_ _ | refine Ext.setCell ?_ (by first | (simp; done) | (simp; omega) | omega) _ | refine Ext.trans ?_ (by assumption)))
  have hz1 : w.heap.size + 1 + 1 < w1.heap.size := by have := hx1.size; simp at this; omega
  have hb := (Boxed.new w [.slice As n.sets.length cs, .slice Ak n.links.length ck] 32).ext ((((Ext.refl _).alloc _).alloc _).trans hx1); have hb0 := hb.at0; have hb1 := hb.at1; have hbg := hb.1; have Hhb := Lib.hid hb; clear hb
  have Hlb : Hid (Boxed w1 (w.heap.size + 1) [.int .i64 a, .int .i64 b, .int .i64 c, .int .i64 d]) := Lib.hid (by
    have := (Boxed.new (w.alloc (.cells #[.slice As n.sets.length cs, .slice Ak n.links.length ck] 32)) [.int .i64 a, .int .i64 b, .int .i64 c, .int .i64 d] 48).ext (((Ext.refl _).alloc _).trans hx1)
    rwa [World.size_alloc] at this)
  have Hrb : Hid (Boxed w1 (w.heap.size + 1 + 1) [.slice none 0 0, .slice none 0 0]) := Lib.hid (by
    have := (Boxed.new ((w.alloc (.cells #[.slice As n.sets.length cs, .slice Ak n.links.length ck] 32)).alloc (.cells #[.int .i64 a, .int .i64 b, .int .i64 c, .int .i64 d] 48)) [.slice none 0 0, .slice none 0 0] 32).ext hx1
    rwa [World.size_alloc, World.size_alloc] at this)
  have lb := Hlb.out; have lb0 := lb.at0; have lb1 := lb.at1; have lb2 := lb.at2; have lb3 := lb.at3; have lbg := lb.1; have Hlb := Lib.hid lb; clear lb
  have rb := Hrb.out; have rb0 := rb.at0; have rb1 := rb.at1; have rbg := rb.1; have Hrb := Lib.hid rb; clear rb
  have rf0 := Hrb.out.fz 0 (by simp)
  have rf1 := Hrb.out.fz 1 (by simp)
  clear hx1
  by_cases hok : NetOk n
  · have Hok := Lib.hid hok
    have hq := B_true hok
    clear hok
    rw [hq]
    clear hq
    have h8 := Hok.out.1
    have h20 := Hok.out.2.1
    go_wp2_with fail
    refine Calls.mono (impl_isLink a b c d n.sets.length _ (by omega)) ?_
    rintro e w2 ⟨rfl, hx2⟩
    have hxx : Ext w w2 := hx.trans (by repeat (first | exact Ext.refl _ | assumption | refine Ext.alloc ?_ _ | refine Ext.drew ?_ | refine Ext.drewN ?_ _ | refine Ext.setCell ?_ (by first | (simp; done) | (simp; omega) | omega) _ | refine Ext.trans ?_ (by assumption)))
    have hz2 : w1.heap.size ≤ w2.heap.size := Ext.size (by repeat (first | exact Ext.refl _ | assumption | refine Ext.alloc ?_ _ | refine Ext.drew ?_ | refine Ext.drewN ?_ _ | refine Ext.setCell ?_ (by first | (simp; done) | (simp; omega) | omega) _ | refine Ext.trans ?_ (by assumption)))
    have h12 := Lib.hid (show Ext w1 w2 from (by repeat (first | exact Ext.refl _ | assumption | refine Ext.alloc ?_ _ | refine Ext.drew ?_ | refine Ext.drewN ?_ _ | refine Ext.setCell ?_ (by first | (simp; done) | (simp; omega) | omega) _ | refine Ext.trans ?_ (by assumption))))
    clear hb0 hb1 hbg lb0 lb1 lb2 lb3 lbg rb0 rb1 rbg rf0 rf1 hx hx2
    have Hhb1 := Lib.hid (Hhb.out.ext h12.out)
    have Hlb1 := Lib.hid (Hlb.out.ext h12.out)
    have Hrb1 := Lib.hid (Hrb.out.ext h12.out)
    clear Hhb Hlb Hrb h12
    have hb := Hhb1.out; have hb0 := hb.at0; have hb1 := hb.at1; have hbg := hb.1; have Hhb := Lib.hid hb; clear hb
    have lb := Hlb1.out; have lb0 := lb.at0; have lb1 := lb.at1; have lb2 := lb.at2; have lb3 := lb.at3; have lbg := lb.1; have Hlb := Lib.hid lb; clear lb
    have rb := Hrb1.out; have rb0 := rb.at0; have rb1 := rb.at1; have rbg := rb.1; have Hrb := Lib.hid rb; clear rb
    have rf0 := Hrb.out.fz 0 (by simp)
    have rf1 := Hrb.out.fz 1 (by simp)
    by_cases hlk : LkOk ⟨a, b, c, d⟩ n.sets.length
    · have Hlk := Lib.hid hlk
      have hq := B_true hlk
      clear hlk
      rw [hq]
      clear hq
      by_cases hm : n.links.length = 20
      · have Hm := Lib.hid hm
        have hd : ((n.links.length : Int) == 20) = true := by rw [hm]; rfl
        clear hm
        go_wp2_with fail
        refine bodyPost_ret (v := .tuple #[.agg #[.slice none 0 0, .slice none 0 0], .int .i64 3]) (by simp [results, Try.results28, go_sem, *]) rfl ?_
        rw [(add_many Hok.out Hlk.out Hm.out).1, (add_many Hok.out Hlk.out Hm.out).2]
        exact NewNet2.nil 3 (by repeat (first | exact Ext.refl _ | assumption | refine Ext.alloc ?_ _ | refine Ext.drew ?_ | refine Ext.drewN ?_ _ | refine Ext.setCell ?_ (by first | (simp; done) | (simp; omega) | omega) _ | refine Ext.trans ?_ (by assumption)))
      · have Hm := Lib.hid hm
        have hd : ((n.links.length : Int) == 20) = false := by simp; omega
        clear hm
        go_wp2_with fail
        refine Calls.mono (impl_ownNetwork _ _ n _ (H.out.up (by repeat (first | exact Ext.refl _ | assumption | refine Ext.alloc ?_ _ | refine Ext.drew ?_ | refine Ext.drewN ?_ _ | refine Ext.setCell ?_ (by first | (simp; done) | (simp; omega) | omega) _ | refine Ext.trans ?_ (by assumption)))) Hok.out.small) ?_
        rintro e w3 ⟨os, ok', a0, b0, rfl, hx3, ha0, hab, hb0', hos, hk3, hkg⟩
        obtain ⟨Ao, co, rfl⟩ := hos.len
        obtain ⟨Aq, cq, rfl⟩ := ownsRow_len hk3
        have Hx3 := Lib.hid hx3
        have Hos := Lib.hid hos
        have Hk3 := Lib.hid hk3
        have Hkg := Lib.hid hkg
        have hz3 := hx3.size
        clear hos hk3 hkg hb0 hb1 hbg lb0 lb1 lb2 lb3 lbg rb0 rb1 rbg rf0 rf1
        have Hlb3 := Lib.hid (Hlb.out.ext hx3)
        have Hrb3 := Lib.hid (Hrb.out.ext hx3)
        clear Hhb Hlb Hrb hx3
        have lb := Hlb3.out; have lb0 := lb.at0; have lb1 := lb.at1; have lb2 := lb.at2; have lb3 := lb.at3; have lbg := lb.1; have Hlb := Lib.hid lb; clear lb
        have rb := Hrb3.out; have rb0 := rb.at0; have rb1 := rb.at1; have rbg := rb.1; have Hrb := Lib.hid rb; clear rb
        have rf0 := Hrb.out.fz 0 (by simp)
        have rf1 := Hrb.out.fz 1 (by simp)
        have Hsrc : Hid (Row ((w3.alloc (.cells #[.slice Ao n.sets.length co, .slice Aq n.links.length cq] 32)).alloc (.cells #[.int .i64 a, .int .i64 b, .int .i64 c, .int .i64 d] 48)) 0 ((w3.alloc (.cells #[.slice Ao n.sets.length co, .slice Aq n.links.length cq] 32)).alloc (.cells #[.int .i64 a, .int .i64 b, .int .i64 c, .int .i64 d] 48)).heap.size 4 (.slice (some ⟨w3.heap.size + 1, 0, none⟩) 1 1) 1 (linkCell [⟨a, b, c, d⟩])) := Lib.hid (by
          have := (Boxed.new (w3.alloc (.cells #[.slice Ao n.sets.length co, .slice Aq n.links.length cq] 32)) [.int .i64 a, .int .i64 b, .int .i64 c, .int .i64 d] 48).row rfl (link_cells a b c d)
          rwa [show (w3.alloc (.cells [.slice Ao n.sets.length co, .slice Aq n.links.length cq].toArray 32)).heap.size = w3.heap.size + 1 from World.size_alloc _ _] at this)
        go_wp2_with (at_builtin; refine wpList_append_row _ rfl _ _ 30 rfl w2.heap.size 48 4 32 Try.underlying30 (by kernel_rfl) (by omega) _ n.links.length 1 _ rfl (.inl (row_ext Hk3.out (by repeat (first | exact Ext.refl _ | assumption | refine Ext.alloc ?_ _ | refine Ext.drew ?_ | refine Ext.drewN ?_ _ | refine Ext.setCell ?_ (by first | (simp; done) | (simp; omega) | omega) _ | refine Ext.trans ?_ (by assumption))))) (.inr (by omega)) 0 _ _ (linkCell [⟨a, b, c, d⟩]) rfl Hsrc.out (fun i _ => linkCell_one _ i) (by unfold maxLen; omega) (by omega) (by simp; omega) ?_; intro k4 w4 hk4 hput; obtain ⟨Av, cv, rfl⟩ := ownsRow_len hk4; have Hk4 := Lib.hid hk4; have Hput := Lib.hid hput; clear hk4 hput;
                                   (
                                    obtain ⟨hos2, hk2, hkg2⟩ := addNet Hos.out Hk3.out (fun g hg hh => by have := Hkg.out g hg; omega) hb0' (show Ext w3 ((w3.alloc (.cells #[.slice Ao n.sets.length co, .slice Aq n.links.length cq] 32)).alloc (.cells #[.int .i64 a, .int .i64 b, .int .i64 c, .int .i64 d] 48)) from (by repeat (first | exact Ext.refl _ | assumption | refine Ext.alloc ?_ _ | refine Ext.drew ?_ | refine Ext.drewN ?_ _ | refine Ext.setCell ?_ (by first | (simp; done) | (simp; omega) | omega) _ | refine Ext.trans ?_ (by assumption)))) Hput.out Hk4.out
                                    have Hos2 := Lib.hid hos2
                                    have Hk2 := Lib.hid hk2
                                    have Hkg2 := Lib.hid hkg2
                                    clear hos2 hk2 hkg2
                                    have hz4 := Hput.out.size
                                    simp at hz4
                                    have no : ∀ k : Nat, k < w2.heap.size ∨ w3.heap.size ≤ k → ¬ (w2.heap.size ≤ k ∧ k < ((w3.alloc (.cells #[.slice Ao n.sets.length co, .slice Aq n.links.length cq] 32)).alloc (.cells #[.int .i64 a, .int .i64 b, .int .i64 c, .int .i64 d] 48)).heap.size ∧ (Value.slice Aq n.links.length cq).ownBlock = some k) := fun k hk hh => by
                                      have h1 := (Hk3.out.lt _ hh.2.2).2
                                      have h2 := hh.1
                                      omega
                                    have No := Lib.hid no
                                    clear no
                                    have hob4 : Boxed w4 w3.heap.size [.slice Ao n.sets.length co, .slice Aq n.links.length cq] := ((Boxed.new w3 [.slice Ao n.sets.length co, .slice Aq n.links.length cq] 32).ext ((Ext.refl _).alloc _)).off Hput.out.1 (No.out _ (.inr (Nat.le_refl _)))
                                    have Hrb4 := Lib.hid ((Hrb.out.ext (((Ext.refl _).alloc (.cells #[.slice Ao n.sets.length co, .slice Aq n.links.length cq] 32)).alloc (.cells #[.int .i64 a, .int .i64 b, .int .i64 c, .int .i64 d] 48))).off Hput.out.1 (No.out _ (.inl (by omega))))
                                    have Hx4 := Lib.hid (Hput.out.ext (show Ext w _ from (by repeat (first | exact Ext.refl _ | assumption | refine Ext.alloc ?_ _ | refine Ext.drew ?_ | refine Ext.drewN ?_ _ | refine Ext.setCell ?_ (by first | (simp; done) | (simp; omega) | omega) _ | refine Ext.trans ?_ (by assumption)))) (by omega))
                                    clear rb0 rb1 rbg rf0 rf1 lb0 lb1 lb2 lb3 lbg Hlb Hrb Hos Hk3 Hkg Hsrc Hput Hk4 No
                                    have ob := hob4; have ob0 := ob.at0; have ob1 := ob.at1; have obg := ob.1; have Hob := Lib.hid ob; clear ob
                                    have rb := Hrb4.out; have rb0 := rb.at0; have rb1 := rb.at1; have rbg := rb.1; have Hrb := Lib.hid rb; clear rb
                                    have rf0 := Hrb.out.fz 0 (by simp)
                                    have rf1 := Hrb.out.fz 1 (by simp)
                                    have of1 := Hob.out.fz 1 (by simp)
                                    clear hob4
                                    have hne1 : ¬ (w3.heap.size = w.heap.size + 1 + 1) := by omega
                                    have hne2 : ¬ (w.heap.size + 1 + 1 = w3.heap.size) := by omega))
        refine bodyPost_ret (v := .tuple #[.agg #[.slice Ao n.sets.length co, .slice Av (n.links.length + 1) cv], .int .i64 0]) (by simp [results, Try.results28, go_sem, *]) rfl ?_
        rw [(add_ok Hok.out Hlk.out Hm.out).1, (add_ok Hok.out Hlk.out Hm.out).2]
        have hO : Off (fun k => k = w3.heap.size ∨ k = w.heap.size + 1 + 1) w4 (((w4.setCell ⟨w3.heap.size, 1, none⟩ (.slice Av (n.links.length + 1) cv)).setCell ⟨w.heap.size + 1 + 1, 0, none⟩ (.slice Ao n.sets.length co)).setCell ⟨w.heap.size + 1 + 1, 1, none⟩ (.slice Av (n.links.length + 1) cv)) :=
          Off.setCell (p := ⟨w.heap.size + 1 + 1, 1, none⟩) (Off.setCell (p := ⟨w.heap.size + 1 + 1, 0, none⟩) (Off.setCell (p := ⟨w3.heap.size, 1, none⟩) (Off.refl _ _) (.inl (.inl rfl)) _) (.inl (.inr rfl)) _) (.inl (.inr rfl)) _
        have hz5 := hO.size
        have hz6 : w3.heap.size < w4.heap.size := obg
        refine ⟨_, _, rfl, Hx4.out.off hO (fun k hk hh => by omega), ?_⟩
        refine ownNet_of (lo := w.heap.size) (n := ⟨n.sets, n.links ++ [⟨a, b, c, d⟩]⟩) (a := a0) (b := b0) (Hos2.out.off hO (fun k h1 h2 hh => by omega)) (ownsRow_mono (ownsRow_off Hk2.out hO (fun g hg hh => ?_)) (by omega)) (by omega) (by omega) (fun g hg => (Hkg2.out g hg).1)
        have h1 := (Hkg2.out g hg).2
        have h2 := (Hk2.out.lt g hg).1
        simp at h1
        omega
    · have Hlk := Lib.hid hlk
      have hq := B_false hlk
      clear hlk
      rw [hq]
      clear hq
      go_wp2_with fail
      refine bodyPost_ret (v := .tuple #[.agg #[.slice none 0 0, .slice none 0 0], .int .i64 2]) (by simp [results, Try.results28, go_sem, *]) rfl ?_
      rw [(add_link Hok.out Hlk.out).1, (add_link Hok.out Hlk.out).2]
      exact NewNet2.nil 2 (by repeat (first | exact Ext.refl _ | assumption | refine Ext.alloc ?_ _ | refine Ext.drew ?_ | refine Ext.drewN ?_ _ | refine Ext.setCell ?_ (by first | (simp; done) | (simp; omega) | omega) _ | refine Ext.trans ?_ (by assumption)))
  · have Hok := Lib.hid hok
    have hq := B_false hok
    clear hok
    rw [hq]
    clear hq
    go_wp2_with fail
    refine bodyPost_ret (v := .tuple #[.agg #[.slice none 0 0, .slice none 0 0], .int .i64 1]) (by simp [results, Try.results28, go_sem, *]) rfl ?_
    rw [(add_net Hok.out).1, (add_net Hok.out).2]
    exact NewNet2.nil 1 (by repeat (first | exact Ext.refl _ | assumption | refine Ext.alloc ?_ _ | refine Ext.drew ?_ | refine Ext.drewN ?_ _ | refine Ext.setCell ?_ (by first | (simp; done) | (simp; omega) | omega) _ | refine Ext.trans ?_ (by assumption)))

set_option maxRecDepth 100000 in
set_option maxHeartbeats 4000000 in
theorem spec_AddLink (s k : Value) (n : Net) (a b c d : Int) (w : World) (h : NetIn w s k n) :
    Calls Try.prog 26 #[.agg #[s, k], .agg #[.int .i64 a, .int .i64 b, .int .i64 c, .int .i64 d]] w (NewNet2 (addV n ⟨a, b, c, d⟩) (addE n ⟨a, b, c, d⟩) w) := by
  obtain ⟨As, cs, rfl, hns, hcs⟩ := h.1.len
  obtain ⟨Ak, ck, rfl, hnk, hck⟩ := h.2.len
  have H := Lib.hid h
  clear h
  go_enter Try.func26, Try.ntmps26
  go_wp2_with fail
  refine Calls.mono (spec_IsNetwork _ _ n _ (H.out.up (by repeat (first | exact Ext.refl _ | assumption | refine Ext.alloc ?_ _ | refine Ext.drew ?_ | refine Ext.drewN ?_ _ | refine Ext.setCell ?_ (by first | (simp; done) | (simp; omega) | omega) _ | refine Ext.trans ?_ (by assumption))))) ?_
  rintro e w1 ⟨rfl, hx1⟩
  have hx : Ext w w1 := (by repeat (first | exact Ext.refl _ | assumption | refine Ext.alloc ?_ _ | refine Ext.drew ?_ | refine Ext.drewN ?_ _ | refine Ext.setCell ?_ (by first | (simp; done) | (simp; omega) | omega) _ | refine Ext.trans ?_ (by assumption)))
  have hz1 : w.heap.size + 1 + 1 < w1.heap.size := by have := hx1.size; simp at this; omega
  have hb := (Boxed.new w [.slice As n.sets.length cs, .slice Ak n.links.length ck] 32).ext ((((Ext.refl _).alloc _).alloc _).trans hx1); have hb0 := hb.at0; have hb1 := hb.at1; have hbg := hb.1; have Hhb := Lib.hid hb; clear hb
  have Hlb : Hid (Boxed w1 (w.heap.size + 1) [.int .i64 a, .int .i64 b, .int .i64 c, .int .i64 d]) := Lib.hid (by
    have := (Boxed.new (w.alloc (.cells #[.slice As n.sets.length cs, .slice Ak n.links.length ck] 32)) [.int .i64 a, .int .i64 b, .int .i64 c, .int .i64 d] 48).ext (((Ext.refl _).alloc _).trans hx1)
    rwa [World.size_alloc] at this)
  have Hrb : Hid (Boxed w1 (w.heap.size + 1 + 1) [.slice none 0 0, .slice none 0 0]) := Lib.hid (by
    have := (Boxed.new ((w.alloc (.cells #[.slice As n.sets.length cs, .slice Ak n.links.length ck] 32)).alloc (.cells #[.int .i64 a, .int .i64 b, .int .i64 c, .int .i64 d] 48)) [.slice none 0 0, .slice none 0 0] 32).ext hx1
    rwa [World.size_alloc, World.size_alloc] at this)
  have lb := Hlb.out; have lb0 := lb.at0; have lb1 := lb.at1; have lb2 := lb.at2; have lb3 := lb.at3; have lbg := lb.1; have Hlb := Lib.hid lb; clear lb
  have rb := Hrb.out; have rb0 := rb.at0; have rb1 := rb.at1; have rbg := rb.1; have Hrb := Lib.hid rb; clear rb
  have rf0 := Hrb.out.fz 0 (by simp)
  have rf1 := Hrb.out.fz 1 (by simp)
  clear hx1
  by_cases hok : NetOk n
  · have Hok := Lib.hid hok
    have hq := B_true hok
    clear hok
    rw [hq]
    clear hq
    have h8 := Hok.out.1
    have h20 := Hok.out.2.1
    go_wp2_with fail
    refine Calls.mono (spec_l18Link a b c d n.sets.length _ (by omega)) ?_
    rintro e w2 ⟨rfl, hx2⟩
    have hxx : Ext w w2 := hx.trans (by repeat (first | exact Ext.refl _ | assumption | refine Ext.alloc ?_ _ | refine Ext.drew ?_ | refine Ext.drewN ?_ _ | refine Ext.setCell ?_ (by first | (simp; done) | (simp; omega) | omega) _ | refine Ext.trans ?_ (by assumption)))
    have hz2 : w1.heap.size ≤ w2.heap.size := Ext.size (by repeat (first | exact Ext.refl _ | assumption | refine Ext.alloc ?_ _ | refine Ext.drew ?_ | refine Ext.drewN ?_ _ | refine Ext.setCell ?_ (by first | (simp; done) | (simp; omega) | omega) _ | refine Ext.trans ?_ (by assumption)))
    have h12 := Lib.hid (show Ext w1 w2 from (by repeat (first | exact Ext.refl _ | assumption | refine Ext.alloc ?_ _ | refine Ext.drew ?_ | refine Ext.drewN ?_ _ | refine Ext.setCell ?_ (by first | (simp; done) | (simp; omega) | omega) _ | refine Ext.trans ?_ (by assumption))))
    clear hb0 hb1 hbg lb0 lb1 lb2 lb3 lbg rb0 rb1 rbg rf0 rf1 hx hx2
    have Hhb1 := Lib.hid (Hhb.out.ext h12.out)
    have Hlb1 := Lib.hid (Hlb.out.ext h12.out)
    have Hrb1 := Lib.hid (Hrb.out.ext h12.out)
    clear Hhb Hlb Hrb h12
    have hb := Hhb1.out; have hb0 := hb.at0; have hb1 := hb.at1; have hbg := hb.1; have Hhb := Lib.hid hb; clear hb
    have lb := Hlb1.out; have lb0 := lb.at0; have lb1 := lb.at1; have lb2 := lb.at2; have lb3 := lb.at3; have lbg := lb.1; have Hlb := Lib.hid lb; clear lb
    have rb := Hrb1.out; have rb0 := rb.at0; have rb1 := rb.at1; have rbg := rb.1; have Hrb := Lib.hid rb; clear rb
    have rf0 := Hrb.out.fz 0 (by simp)
    have rf1 := Hrb.out.fz 1 (by simp)
    by_cases hlk : LkOk ⟨a, b, c, d⟩ n.sets.length
    · have Hlk := Lib.hid hlk
      have hq := B_true hlk
      clear hlk
      rw [hq]
      clear hq
      by_cases hm : n.links.length = 20
      · have Hm := Lib.hid hm
        have hd : ((n.links.length : Int) == 20) = true := by rw [hm]; rfl
        clear hm
        go_wp2_with fail
        refine bodyPost_ret (v := .tuple #[.agg #[.slice none 0 0, .slice none 0 0], .int .i64 3]) (by simp [results, Try.results26, go_sem, *]) rfl ?_
        rw [(add_many Hok.out Hlk.out Hm.out).1, (add_many Hok.out Hlk.out Hm.out).2]
        exact NewNet2.nil 3 (by repeat (first | exact Ext.refl _ | assumption | refine Ext.alloc ?_ _ | refine Ext.drew ?_ | refine Ext.drewN ?_ _ | refine Ext.setCell ?_ (by first | (simp; done) | (simp; omega) | omega) _ | refine Ext.trans ?_ (by assumption)))
      · have Hm := Lib.hid hm
        have hd : ((n.links.length : Int) == 20) = false := by simp; omega
        clear hm
        go_wp2_with fail
        refine Calls.mono (spec_l18Own _ _ n _ (H.out.up (by repeat (first | exact Ext.refl _ | assumption | refine Ext.alloc ?_ _ | refine Ext.drew ?_ | refine Ext.drewN ?_ _ | refine Ext.setCell ?_ (by first | (simp; done) | (simp; omega) | omega) _ | refine Ext.trans ?_ (by assumption)))) Hok.out.small) ?_
        rintro e w3 ⟨os, ok', a0, b0, rfl, hx3, ha0, hab, hb0', hos, hk3, hkg⟩
        obtain ⟨Ao, co, rfl⟩ := hos.len
        obtain ⟨Aq, cq, rfl⟩ := ownsRow_len hk3
        have Hx3 := Lib.hid hx3
        have Hos := Lib.hid hos
        have Hk3 := Lib.hid hk3
        have Hkg := Lib.hid hkg
        have hz3 := hx3.size
        clear hos hk3 hkg hb0 hb1 hbg lb0 lb1 lb2 lb3 lbg rb0 rb1 rbg rf0 rf1
        have Hlb3 := Lib.hid (Hlb.out.ext hx3)
        have Hrb3 := Lib.hid (Hrb.out.ext hx3)
        clear Hhb Hlb Hrb hx3
        have lb := Hlb3.out; have lb0 := lb.at0; have lb1 := lb.at1; have lb2 := lb.at2; have lb3 := lb.at3; have lbg := lb.1; have Hlb := Lib.hid lb; clear lb
        have rb := Hrb3.out; have rb0 := rb.at0; have rb1 := rb.at1; have rbg := rb.1; have Hrb := Lib.hid rb; clear rb
        have rf0 := Hrb.out.fz 0 (by simp)
        have rf1 := Hrb.out.fz 1 (by simp)
        have Hsrc : Hid (Row ((w3.alloc (.cells #[.slice Ao n.sets.length co, .slice Aq n.links.length cq] 32)).alloc (.cells #[.int .i64 a, .int .i64 b, .int .i64 c, .int .i64 d] 48)) 0 ((w3.alloc (.cells #[.slice Ao n.sets.length co, .slice Aq n.links.length cq] 32)).alloc (.cells #[.int .i64 a, .int .i64 b, .int .i64 c, .int .i64 d] 48)).heap.size 4 (.slice (some ⟨w3.heap.size + 1, 0, none⟩) 1 1) 1 (linkCell [⟨a, b, c, d⟩])) := Lib.hid (by
          have := (Boxed.new (w3.alloc (.cells #[.slice Ao n.sets.length co, .slice Aq n.links.length cq] 32)) [.int .i64 a, .int .i64 b, .int .i64 c, .int .i64 d] 48).row rfl (link_cells a b c d)
          rwa [show (w3.alloc (.cells [.slice Ao n.sets.length co, .slice Aq n.links.length cq].toArray 32)).heap.size = w3.heap.size + 1 from World.size_alloc _ _] at this)
        go_wp2_with (at_builtin; refine wpList_append_row _ rfl _ _ 30 rfl w2.heap.size 48 4 32 Try.underlying30 (by kernel_rfl) (by omega) _ n.links.length 1 _ rfl (.inl (row_ext Hk3.out (by repeat (first | exact Ext.refl _ | assumption | refine Ext.alloc ?_ _ | refine Ext.drew ?_ | refine Ext.drewN ?_ _ | refine Ext.setCell ?_ (by first | (simp; done) | (simp; omega) | omega) _ | refine Ext.trans ?_ (by assumption))))) (.inr (by omega)) 0 _ _ (linkCell [⟨a, b, c, d⟩]) rfl Hsrc.out (fun i _ => linkCell_one _ i) (by unfold maxLen; omega) (by omega) (by simp; omega) ?_; intro k4 w4 hk4 hput; obtain ⟨Av, cv, rfl⟩ := ownsRow_len hk4; have Hk4 := Lib.hid hk4; have Hput := Lib.hid hput; clear hk4 hput;
                                   (
                                    obtain ⟨hos2, hk2, hkg2⟩ := addNet Hos.out Hk3.out (fun g hg hh => by have := Hkg.out g hg; omega) hb0' (show Ext w3 ((w3.alloc (.cells #[.slice Ao n.sets.length co, .slice Aq n.links.length cq] 32)).alloc (.cells #[.int .i64 a, .int .i64 b, .int .i64 c, .int .i64 d] 48)) from (by repeat (first | exact Ext.refl _ | assumption | refine Ext.alloc ?_ _ | refine Ext.drew ?_ | refine Ext.drewN ?_ _ | refine Ext.setCell ?_ (by first | (simp; done) | (simp; omega) | omega) _ | refine Ext.trans ?_ (by assumption)))) Hput.out Hk4.out
                                    have Hos2 := Lib.hid hos2
                                    have Hk2 := Lib.hid hk2
                                    have Hkg2 := Lib.hid hkg2
                                    clear hos2 hk2 hkg2
                                    have hz4 := Hput.out.size
                                    simp at hz4
                                    have no : ∀ k : Nat, k < w2.heap.size ∨ w3.heap.size ≤ k → ¬ (w2.heap.size ≤ k ∧ k < ((w3.alloc (.cells #[.slice Ao n.sets.length co, .slice Aq n.links.length cq] 32)).alloc (.cells #[.int .i64 a, .int .i64 b, .int .i64 c, .int .i64 d] 48)).heap.size ∧ (Value.slice Aq n.links.length cq).ownBlock = some k) := fun k hk hh => by
                                      have h1 := (Hk3.out.lt _ hh.2.2).2
                                      have h2 := hh.1
                                      omega
                                    have No := Lib.hid no
                                    clear no
                                    have hob4 : Boxed w4 w3.heap.size [.slice Ao n.sets.length co, .slice Aq n.links.length cq] := ((Boxed.new w3 [.slice Ao n.sets.length co, .slice Aq n.links.length cq] 32).ext ((Ext.refl _).alloc _)).off Hput.out.1 (No.out _ (.inr (Nat.le_refl _)))
                                    have Hrb4 := Lib.hid ((Hrb.out.ext (((Ext.refl _).alloc (.cells #[.slice Ao n.sets.length co, .slice Aq n.links.length cq] 32)).alloc (.cells #[.int .i64 a, .int .i64 b, .int .i64 c, .int .i64 d] 48))).off Hput.out.1 (No.out _ (.inl (by omega))))
                                    have Hx4 := Lib.hid (Hput.out.ext (show Ext w _ from (by repeat (first | exact Ext.refl _ | assumption | refine Ext.alloc ?_ _ | refine Ext.drew ?_ | refine Ext.drewN ?_ _ | refine Ext.setCell ?_ (by first | (simp; done) | (simp; omega) | omega) _ | refine Ext.trans ?_ (by assumption)))) (by omega))
                                    clear rb0 rb1 rbg rf0 rf1 lb0 lb1 lb2 lb3 lbg Hlb Hrb Hos Hk3 Hkg Hsrc Hput Hk4 No
                                    have ob := hob4; have ob0 := ob.at0; have ob1 := ob.at1; have obg := ob.1; have Hob := Lib.hid ob; clear ob
                                    have rb := Hrb4.out; have rb0 := rb.at0; have rb1 := rb.at1; have rbg := rb.1; have Hrb := Lib.hid rb; clear rb
                                    have rf0 := Hrb.out.fz 0 (by simp)
                                    have rf1 := Hrb.out.fz 1 (by simp)
                                    have of1 := Hob.out.fz 1 (by simp)
                                    clear hob4
                                    have hne1 : ¬ (w3.heap.size = w.heap.size + 1 + 1) := by omega
                                    have hne2 : ¬ (w.heap.size + 1 + 1 = w3.heap.size) := by omega))
        refine bodyPost_ret (v := .tuple #[.agg #[.slice Ao n.sets.length co, .slice Av (n.links.length + 1) cv], .int .i64 0]) (by simp [results, Try.results26, go_sem, *]) rfl ?_
        rw [(add_ok Hok.out Hlk.out Hm.out).1, (add_ok Hok.out Hlk.out Hm.out).2]
        have hO : Off (fun k => k = w3.heap.size ∨ k = w.heap.size + 1 + 1) w4 (((w4.setCell ⟨w3.heap.size, 1, none⟩ (.slice Av (n.links.length + 1) cv)).setCell ⟨w.heap.size + 1 + 1, 0, none⟩ (.slice Ao n.sets.length co)).setCell ⟨w.heap.size + 1 + 1, 1, none⟩ (.slice Av (n.links.length + 1) cv)) :=
          Off.setCell (p := ⟨w.heap.size + 1 + 1, 1, none⟩) (Off.setCell (p := ⟨w.heap.size + 1 + 1, 0, none⟩) (Off.setCell (p := ⟨w3.heap.size, 1, none⟩) (Off.refl _ _) (.inl (.inl rfl)) _) (.inl (.inr rfl)) _) (.inl (.inr rfl)) _
        have hz5 := hO.size
        have hz6 : w3.heap.size < w4.heap.size := obg
        refine ⟨_, _, rfl, Hx4.out.off hO (fun k hk hh => by omega), ?_⟩
        refine ownNet_of (lo := w.heap.size) (n := ⟨n.sets, n.links ++ [⟨a, b, c, d⟩]⟩) (a := a0) (b := b0) (Hos2.out.off hO (fun k h1 h2 hh => by omega)) (ownsRow_mono (ownsRow_off Hk2.out hO (fun g hg hh => ?_)) (by omega)) (by omega) (by omega) (fun g hg => (Hkg2.out g hg).1)
        have h1 := (Hkg2.out g hg).2
        have h2 := (Hk2.out.lt g hg).1
        simp at h1
        omega
    · have Hlk := Lib.hid hlk
      have hq := B_false hlk
      clear hlk
      rw [hq]
      clear hq
      go_wp2_with fail
      refine bodyPost_ret (v := .tuple #[.agg #[.slice none 0 0, .slice none 0 0], .int .i64 2]) (by simp [results, Try.results26, go_sem, *]) rfl ?_
      rw [(add_link Hok.out Hlk.out).1, (add_link Hok.out Hlk.out).2]
      exact NewNet2.nil 2 (by repeat (first | exact Ext.refl _ | assumption | refine Ext.alloc ?_ _ | refine Ext.drew ?_ | refine Ext.drewN ?_ _ | refine Ext.setCell ?_ (by first | (simp; done) | (simp; omega) | omega) _ | refine Ext.trans ?_ (by assumption)))
  · have Hok := Lib.hid hok
    have hq := B_false hok
    clear hok
    rw [hq]
    clear hq
    go_wp2_with fail
    refine bodyPost_ret (v := .tuple #[.agg #[.slice none 0 0, .slice none 0 0], .int .i64 1]) (by simp [results, Try.results26, go_sem, *]) rfl ?_
    rw [(add_net Hok.out).1, (add_net Hok.out).2]
    exact NewNet2.nil 1 (by repeat (first | exact Ext.refl _ | assumption | refine Ext.alloc ?_ _ | refine Ext.drew ?_ | refine Ext.drewN ?_ _ | refine Ext.setCell ?_ (by first | (simp; done) | (simp; omega) | omega) _ | refine Ext.trans ?_ (by assumption)))
end Go.Proofs.Ytkpoelgaomgjlaa
