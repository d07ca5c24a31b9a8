/- Contracts: GiveUp. -/
import Derived.Test.YtkpoelgaomgjlaaGw
namespace Go.Proofs.Ytkpoelgaomgjlaa
set_option linter.unusedVariables false
set_option linter.unusedSimpArgs false
open Go.RowKit
attribute [local go_sem] cell_onto

noncomputable def gvV (n : Net) (l : List Int) : Net := bif B (stmE n l = 0) then giveN (fun i => HasI l i) n else noNet
theorem gvV_no {n : Net} {l : List Int} {c : Int} (h : stmE n l = c) (h0 : c ≠ 0) : gvV n l = noNet := by unfold gvV; rw [B_false (by omega)]; rfl
theorem gvV_ok {n : Net} {l : List Int} (h : stmE n l = 0) : gvV n l = giveN (fun i => HasI l i) n := by unfold gvV; rw [B_true h]; rfl
theorem gvV_small (n : Net) (l : List Int) : Small (gvV n l) := by
  have hn : Small noNet := ⟨by simp [noNet], by simp [noNet], fun i hi => absurd hi (by simp [noNet])⟩
  by_cases h : stmE n l = 0
  · have hok : NetOk n := Classical.byContradiction (fun hh => by rw [stm_net hh] at h; omega)
    have h1 : NetOk (giveN (fun i => HasI l i) n) := giveN_ok hok
    rw [gvV_ok h]
    exact ⟨by have := h1.1; omega, by have := h1.2.1; omega, fun i hi => by have := (h1.2.2.1 i hi).1; omega⟩
  · unfold gvV
    rw [B_false h]
    exact hn
theorem OwnNet.lower {w : World} {lo lo' hi : Nat} {v : Value} {n : Net} (h : OwnNet w lo hi v n) (hl : lo' ≤ lo) : OwnNet w lo' hi v n := by
  obtain ⟨s, k, a, b, gk, e, h1, h2, h3, h4, h5⟩ := h
  exact ⟨s, k, a, b, gk, e, by omega, h2, h3, h4, fun hn => by have := h5 hn; omega⟩
/-- a network made by a callee, put into the result's box -/
theorem NewNet2.put {m : Net} {c : Int} {w w2 w3 : World} {r : Nat} {s k : Value} (hx : Ext w w2) (hr : w.heap.size ≤ r) (hr2 : r < w2.heap.size) (hx3 : Ext w2 w3) (ho : OwnNet w3 w2.heap.size w3.heap.size (.agg #[s, k]) m) :
    NewNet2 m c w (.returned (.tuple #[.agg #[s, k], .int .i64 c])) ((w3.setCell ⟨r, 0, none⟩ s).setCell ⟨r, 1, none⟩ k) := by
  have hO : Off (fun x => x = r) w3 ((w3.setCell ⟨r, 0, none⟩ s).setCell ⟨r, 1, none⟩ k) := Off.setCell (S := fun x => x = r) (p := ⟨r, 1, none⟩) (Off.setCell (S := fun x => x = r) (p := ⟨r, 0, none⟩) (Off.refl _ _) (.inl rfl) _) (.inl rfl) _
  have hz : ((w3.setCell ⟨r, 0, none⟩ s).setCell ⟨r, 1, none⟩ k).heap.size = w3.heap.size := by simp [World.setCell]
  refine ⟨s, k, rfl, (hx.trans hx3).off hO (fun x hx hh => by omega), ?_⟩
  rw [hz]
  exact (ho.off hO (fun x h1 h2 hh => by omega)).lower hx.size

set_option maxHeartbeats 1000000 in
theorem impl_GiveUp_1 (i : Int) (gb : Nat) (v : Value) (l : List Int) (w : World) (hb : w.cell? ⟨gb, 0, none⟩ = some v) (hg : gb < w.heap.size) (h : Ints w 0 w.heap.size v l) :
    Calls Try.prog 87 #[.int .i64 i, .pointer (some ⟨gb, 0, none⟩)] w (RetX (.bool (B (HasI l i))) w) := by
  obtain ⟨A, c, rfl, hn, hc⟩ := h.len
  have H := Lib.hid h
  clear h
  go_enter Try.func87, Try.ntmps87
  go_wp2_with (go_at_call 88; refine Calls.mono (slices_Contains_ints _ l i _ H.out) ?_; rintro e w1 ⟨rfl, hx1⟩)
  go_ret
  exact ⟨rfl, (by repeat (first | exact Ext.refl _ | assumption | refine Ext.alloc ?_ _ | refine Ext.drew ?_ | refine Ext.drewN ?_ _ | refine Ext.setCell ?_ (by first | (simp; done) | (simp; omega) | omega) _ | refine Ext.trans ?_ (by assumption)))⟩
set_option maxRecDepth 100000 in
set_option maxHeartbeats 2000000 in
theorem impl_GiveUp (s k v : Value) (n : Net) (l : List Int) (w : World) (h : NetIn w s k n) (hl : Ints w 0 w.heap.size v l) :
    Calls Try.prog 35 #[.agg #[s, k], v] w (NewNet2 (gvV n l) (stmE n l) w) := by
  obtain ⟨A, c, rfl, hn, hc⟩ := hl.len
  have H := Lib.hid h
  have Hl := Lib.hid hl
  clear h hl
  go_enter Try.func35, Try.ntmps35
  go_wp2_with fail
  refine Calls.mono (impl_checkStatements s k _ n l _ (H.out.up (by repeat (first | exact Ext.refl _ | assumption | refine Ext.alloc ?_ _ | refine Ext.drew ?_ | refine Ext.drewN ?_ _ | refine Ext.setCell ?_ (by first | (simp; done) | (simp; omega) | omega) _ | refine Ext.trans ?_ (by assumption)))) (Hl.out.up (by repeat (first | exact Ext.refl _ | assumption | refine Ext.alloc ?_ _ | refine Ext.drew ?_ | refine Ext.drewN ?_ _ | refine Ext.setCell ?_ (by first | (simp; done) | (simp; omega) | omega) _ | refine Ext.trans ?_ (by assumption))))) ?_
  rintro e w1 ⟨rfl, hx1⟩
  have hx : Ext w w1 := (by repeat (first | exact Ext.refl _ | assumption | refine Ext.alloc ?_ _ | refine Ext.drew ?_ | refine Ext.drewN ?_ _ | refine Ext.setCell ?_ (by first | (simp; done) | (simp; omega) | omega) _ | refine Ext.trans ?_ (by assumption)))
  have hz1 : w.heap.size + 1 + 1 < w1.heap.size := by have := hx1.size; simp at this; omega
  have hb := (Boxed.new w [s, k] 32).ext ((((Ext.refl _).alloc _).alloc _).trans hx1); have hb0 := hb.at0; have hb1 := hb.at1; have hbg := hb.1; have Hhb := Lib.hid hb; clear hb
  have Hlb : Hid (Boxed w1 (w.heap.size + 1) [.slice A l.length c]) := Lib.hid (by
    have := (Boxed.new (w.alloc (.cells #[s, k] 32)) [.slice A l.length c] 36).ext (((Ext.refl _).alloc _).trans hx1)
    rwa [World.size_alloc] at this)
  have Hrb : Hid (Boxed w1 (w.heap.size + 1 + 1) [.slice none 0 0, .slice none 0 0]) := Lib.hid (by
    have := (Boxed.new ((w.alloc (.cells #[s, k] 32)).alloc (.cells #[.slice A l.length c] 36)) [.slice none 0 0, .slice none 0 0] 32).ext hx1
    rwa [World.size_alloc, World.size_alloc] at this)
  have lb := Hlb.out; have lb0 := lb.at0; have lbg := lb.1; have Hlb := Lib.hid lb; clear lb
  have rb := Hrb.out; have rb0 := rb.at0; have rb1 := rb.at1; have rbg := rb.1; have Hrb := Lib.hid rb; clear rb
  have rf0 := Hrb.out.fz 0 (by simp)
  have rf1 := Hrb.out.fz 1 (by simp)
  clear hx1
  by_cases hok : NetOk n
  · have Hok := Lib.hid hok
    clear hok
    by_cases hq : StmOk n l
    · have He := Lib.hid (stm_ok Hok.out hq)
      clear hq
      rw [He.out]
      go_wp2_with fail
      refine Calls.mono (impl_giveUp s k n 87 #[.pointer (some ⟨w.heap.size + 1, 0, none⟩)] (fun i => HasI l i) w1 (H.out.up hx) Hok.out Try.call87 (fun i w' _ hxx => impl_GiveUp_1 i (w.heap.size + 1) _ l w' ((Hlb.out.ext hxx).at0) (Hlb.out.ext hxx).1 (Hl.out.up (hx.trans hxx)))) ?_
      rintro e w2 ⟨gs, gk, rfl, hx2, ho⟩
      obtain ⟨As, cs, rfl, _, _⟩ := ho.at_.1.len
      obtain ⟨Ak, ck, rfl, _, _⟩ := ho.at_.2.len
      have Hx2 := Lib.hid hx2
      have Ho := Lib.hid ho
      have Hrb2 := Lib.hid (Hrb.out.ext hx2)
      clear ho hb0 hb1 hbg lb0 lbg rb0 rb1 rbg rf0 rf1 Hhb Hlb Hrb hx2
      have rb := Hrb2.out; have rb0 := rb.at0; have rb1 := rb.at1; have rbg := rb.1; have Hrb := Lib.hid rb; clear rb
      have rf0 := Hrb.out.fz 0 (by simp)
      have rf1 := Hrb.out.fz 1 (by simp)
      go_wp2_with fail
      refine bodyPost_ret (v := .tuple #[.agg #[.slice As (giveN (fun i => HasI l i) n).sets.length cs, .slice Ak (giveN (fun i => HasI l i) n).links.length ck], .int .i64 0]) (by simp [results, Try.results35, go_sem, *]) rfl ?_
      rw [gvV_ok He.out, He.out]
      exact NewNet2.put hx (by omega) hz1 Hx2.out Ho.out
    · have He := Lib.hid (stm_bad Hok.out hq)
      clear hq
      rw [He.out]
      go_wp2_with fail
      refine bodyPost_ret (v := .tuple #[.agg #[.slice none 0 0, .slice none 0 0], .int .i64 2]) (by simp [results, Try.results35, go_sem, *]) rfl ?_
      rw [gvV_no He.out (by omega), He.out]
      exact NewNet2.nil 2 (by repeat (first | exact Ext.refl _ | assumption | refine Ext.alloc ?_ _ | refine Ext.drew ?_ | refine Ext.drewN ?_ _ | refine Ext.setCell ?_ (by first | (simp; done) | (simp; omega) | omega) _ | refine Ext.trans ?_ (by assumption)))
  · have He := Lib.hid (stm_net (l := l) hok)
    clear hok
    rw [He.out]
    go_wp2_with fail
    refine bodyPost_ret (v := .tuple #[.agg #[.slice none 0 0, .slice none 0 0], .int .i64 1]) (by simp [results, Try.results35, go_sem, *]) rfl ?_
    rw [gvV_no He.out (by omega), He.out]
    exact NewNet2.nil 1 (by repeat (first | exact Ext.refl _ | assumption | refine Ext.alloc ?_ _ | refine Ext.drew ?_ | refine Ext.drewN ?_ _ | refine Ext.setCell ?_ (by first | (simp; done) | (simp; omega) | omega) _ | refine Ext.trans ?_ (by assumption)))

set_option maxRecDepth 100000 in
set_option maxHeartbeats 2000000 in
theorem spec_GiveUp (s k v : Value) (n : Net) (l : List Int) (w : World) (h : NetIn w s k n) (hl : Ints w 0 w.heap.size v l) :
    Calls Try.prog 34 #[.agg #[s, k], v] w (NewNet2 (gvV n l) (stmE n l) w) := by
  have H := Lib.hid h
  have Hl := Lib.hid hl
  clear h hl
  go_enter Try.func34, Try.ntmps34
  go_wp2_with fail
  refine Calls.mono (spec_IsNetwork s k n _ (H.out.up (by repeat (first | exact Ext.refl _ | assumption | refine Ext.alloc ?_ _ | refine Ext.drew ?_ | refine Ext.drewN ?_ _ | refine Ext.setCell ?_ (by first | (simp; done) | (simp; omega) | omega) _ | refine Ext.trans ?_ (by assumption))))) ?_
  rintro e w1 ⟨rfl, hx1⟩
  have hx : Ext w w1 := (by repeat (first | exact Ext.refl _ | assumption | refine Ext.alloc ?_ _ | refine Ext.drew ?_ | refine Ext.drewN ?_ _ | refine Ext.setCell ?_ (by first | (simp; done) | (simp; omega) | omega) _ | refine Ext.trans ?_ (by assumption)))
  have hz1 : w.heap.size + 1 < w1.heap.size := by have := hx1.size; simp at this; omega
  have hb := (Boxed.new w [s, k] 32).ext (((Ext.refl _).alloc _).trans hx1); have hb0 := hb.at0; have hb1 := hb.at1; have hbg := hb.1; have Hhb := Lib.hid hb; clear hb
  have Hrb : Hid (Boxed w1 (w.heap.size + 1) [.slice none 0 0, .slice none 0 0]) := Lib.hid (by
    have := (Boxed.new (w.alloc (.cells #[s, k] 32)) [.slice none 0 0, .slice none 0 0] 32).ext hx1
    rwa [World.size_alloc] at this)
  have rb := Hrb.out; have rb0 := rb.at0; have rb1 := rb.at1; have rbg := rb.1; have Hrb := Lib.hid rb; clear rb
  have rf0 := Hrb.out.fz 0 (by simp)
  have rf1 := Hrb.out.fz 1 (by simp)
  clear hx1
  by_cases hok : NetOk n
  · have Hok := Lib.hid hok
    have hq := B_true hok
    rw [hq]
    clear hq hok
    go_wp2_with fail
    refine Calls.mono (spec_l21List s k v n l _ (H.out.up hx) (Hl.out.up hx) Hok.out) ?_
    rintro e w2 ⟨rfl, hx2⟩
    have hxx : Ext w w2 := hx.trans hx2
    have hz2 := hx2.size
    have Hhb2 := Lib.hid (Hhb.out.ext hx2)
    have Hrb2 := Lib.hid (Hrb.out.ext hx2)
    clear hb0 hb1 hbg rb0 rb1 rbg rf0 rf1 Hhb Hrb hx hx2
    have hb := Hhb2.out; have hb0 := hb.at0; have hb1 := hb.at1; have hbg := hb.1; have Hhb := Lib.hid hb; clear hb
    have rb := Hrb2.out; have rb0 := rb.at0; have rb1 := rb.at1; have rbg := rb.1; have Hrb := Lib.hid rb; clear rb
    have rf0 := Hrb.out.fz 0 (by simp)
    have rf1 := Hrb.out.fz 1 (by simp)
    by_cases hq : StmOk n l
    · have He := Lib.hid (stm_ok Hok.out hq)
      have hb := B_true hq
      rw [hb]
      clear hq hb
      go_wp2_with fail
      refine Calls.mono (spec_l21Without s k v n l _ (H.out.up hxx) (Hl.out.up hxx) Hok.out) ?_
      rintro e w3 ⟨gs, gk, rfl, hx3, ho⟩
      obtain ⟨As, cs, rfl, _, _⟩ := ho.at_.1.len
      obtain ⟨Ak, ck, rfl, _, _⟩ := ho.at_.2.len
      have Hx3 := Lib.hid hx3
      have Ho := Lib.hid ho
      have Hrb3 := Lib.hid (Hrb.out.ext hx3)
      clear ho hb0 hb1 hbg rb0 rb1 rbg rf0 rf1 Hhb Hrb hx3
      have rb := Hrb3.out; have rb0 := rb.at0; have rb1 := rb.at1; have rbg := rb.1; have Hrb := Lib.hid rb; clear rb
      have rf0 := Hrb.out.fz 0 (by simp)
      have rf1 := Hrb.out.fz 1 (by simp)
      go_wp2_with fail
      refine bodyPost_ret (v := .tuple #[.agg #[.slice As (giveN (fun i => HasI l i) n).sets.length cs, .slice Ak (giveN (fun i => HasI l i) n).links.length ck], .int .i64 0]) (by simp [results, Try.results34, go_sem, *]) rfl ?_
      rw [gvV_ok He.out, He.out]
      exact NewNet2.put hxx (by omega) (by omega) Hx3.out Ho.out
    · have He := Lib.hid (stm_bad Hok.out hq)
      have hb := B_false hq
      rw [hb]
      clear hq hb
      go_wp2_with fail
      refine bodyPost_ret (v := .tuple #[.agg #[.slice none 0 0, .slice none 0 0], .int .i64 2]) (by simp [results, Try.results34, go_sem, *]) rfl ?_
      rw [gvV_no He.out (by omega), He.out]
      exact NewNet2.nil 2 (by repeat (first | exact Ext.refl _ | assumption | refine Ext.alloc ?_ _ | refine Ext.drew ?_ | refine Ext.drewN ?_ _ | refine Ext.setCell ?_ (by first | (simp; done) | (simp; omega) | omega) _ | refine Ext.trans ?_ (by assumption)))
  · have He := Lib.hid (stm_net (l := l) hok)
    have hb := B_false hok
    rw [hb]
    clear hok hb
    go_wp2_with fail
    refine bodyPost_ret (v := .tuple #[.agg #[.slice none 0 0, .slice none 0 0], .int .i64 1]) (by simp [results, Try.results34, go_sem, *]) rfl ?_
    rw [gvV_no He.out (by omega), He.out]
    exact NewNet2.nil 1 (by repeat (first | exact Ext.refl _ | assumption | refine Ext.alloc ?_ _ | refine Ext.drew ?_ | refine Ext.drewN ?_ _ | refine Ext.setCell ?_ (by first | (simp; done) | (simp; omega) | omega) _ | refine Ext.trans ?_ (by assumption)))
end Go.Proofs.Ytkpoelgaomgjlaa
