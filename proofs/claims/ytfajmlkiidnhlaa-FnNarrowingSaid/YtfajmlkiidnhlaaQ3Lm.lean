/- Texts merged (a claim holds at most sixty files): Lm, Lr. -/
import Derived.Test.YtfajmlkiidnhlaaQ3Nl
import Derived.Test.YtfajmlkiidnhlaaQ3Na
import Derived.Test.YtfajmlkiidnhlaaQ3D
import Derived.Deep.RegionLaw
/- Contracts: limitedNetwork, l19Result; the rounds of narrowing. -/
namespace Go.Proofs.Ytfajmlkiidnhlaa
set_option linter.unusedVariables false
set_option linter.unusedSimpArgs false
open Go.RowKit
attribute [local go_sem] cell_onto

theorem lim_iff {n : Net} : ¬ Some_ n.sets.length (fun i => ¬ (setAt n.sets i).length ≤ 300) ↔ Lim n := by
  unfold Some_ Lim
  constructor
  · intro h i hi
    exact Classical.byContradiction fun hn => h ⟨i, hi, hn⟩
  · rintro h ⟨i, hi, hn⟩
    exact hn (h i hi)
theorem OwnSets.wide {w : World} {lo b b' : Nat} {s : Value} {l : List (List Sp)} (h : OwnSets w lo b s l) (hb : b ≤ b') : OwnSets w lo b' s l := by
  obtain ⟨g0, f, g, h1, h2, h3, h4⟩ := h
  exact ⟨g0, f, g, h1, fun h0 => ⟨(h2 h0).1, by have := (h2 h0).2; omega⟩, fun i hi => ⟨(h3 i hi).1, fun h0 => ⟨((h3 i hi).2 h0).1, by have := ((h3 i hi).2 h0).2.1; omega, ((h3 i hi).2 h0).2.2⟩⟩, h4⟩
set_option maxHeartbeats 400000 in
theorem impl_limitedNetwork_1 (v : Value) (l : List Sp) (w : World) (h : Spans w 0 w.heap.size v l) : Calls Try.prog 202 #[v] w (RetX (.bool (B (¬ l.length ≤ 300))) w) := by
  obtain ⟨A, c, rfl, hn, hc⟩ := h.len
  clear h
  go_enter Try.func202, Try.ntmps202
  go_wp2_with fail
  go_ret
  refine ⟨ret_bool (B_eq ?_), (by repeat (first | exact Ext.refl _ | assumption | refine Ext.alloc ?_ _ | refine Ext.drew ?_ | refine Ext.drewN ?_ _ | refine Ext.setCell ?_ (by first | (simp; done) | (simp; omega) | omega) _ | refine Ext.trans ?_ (by assumption)))⟩
  simp only [decide_eq_true_eq]
  omega
set_option maxHeartbeats 1000000 in
theorem impl_limitedNetwork_yes (s k : Value) (n : Net) (w : World) (h : NetIn w s k n) (hl : Lim n) : Calls Try.prog 147 #[.agg #[s, k]] w (RetX (.tuple #[.agg #[s, k], .int .i64 0]) w) := by
  obtain ⟨As, c0, rfl, hns0, hcs0⟩ := h.1.len
  obtain ⟨Ar, c1, rfl, hnk0, hck0⟩ := h.2.len
  have Hc := Lib.hid (fun (w1 : World) (h1 : Sets w1 0 w1.heap.size (.slice As n.sets.length c0) n.sets) => containsFunc_sets (.slice As n.sets.length c0) n.sets 202 #[] (fun i => ¬ (setAt n.sets i).length ≤ 300) w1 h1 Try.call202 (fun i w' u hu _ hx => impl_limitedNetwork_1 u (setAt n.sets i) w' (hu.mono (Nat.le_refl _) hx.size)))
  have Hb := Lib.hid (B_false (fun hh => lim_iff.2 hl hh))
  have H := Lib.hid h
  clear h hl
  go_enter Try.func147, Try.ntmps147
  go_wp2_with fail
  have nb := (Boxed.new w [.slice As n.sets.length c0, .slice Ar n.links.length c1] 27).ext ((Ext.refl _).alloc (.cells #[.slice none 0 0, .slice none 0 0] 27)); have nb0 := nb.at0; have nb1 := nb.at1; have nbg := nb.1; have Hnb := Lib.hid nb; clear nb
  refine Calls.mono (Hc.out _ (H.out.up (by repeat (first | exact Ext.refl _ | assumption | refine Ext.alloc ?_ _ | refine Ext.drew ?_ | refine Ext.drewN ?_ _ | refine Ext.setCell ?_ (by first | (simp; done) | (simp; omega) | omega) _ | refine Ext.trans ?_ (by assumption)))).1) ?_
  rintro e w1 ⟨rfl, hx1⟩
  have hx : Ext w w1 := (by repeat (first | exact Ext.refl _ | assumption | refine Ext.alloc ?_ _ | refine Ext.drew ?_ | refine Ext.drewN ?_ _ | refine Ext.setCell ?_ (by first | (simp; done) | (simp; omega) | omega) _ | refine Ext.trans ?_ (by assumption)))
  rw [Hb.out]
  have hn1 := Hnb.out.ext hx1
  have hr1 : Boxed w1 (w.heap.size + 1) [.slice none 0 0, .slice none 0 0] := by
    have := (Boxed.new (w.alloc (.cells #[.slice As n.sets.length c0, .slice Ar n.links.length c1] 27)) [.slice none 0 0, .slice none 0 0] 27).ext hx1
    rwa [World.size_alloc] at this
  clear nb0 nb1 nbg Hnb
  have nb := hn1; have nb0 := nb.at0; have nb1 := nb.at1; have nbg := nb.1; have Hnb := Lib.hid nb; clear nb
  have rb := hr1; have rb0 := rb.at0; have rb1 := rb.at1; have rbg := rb.1; have Hrb := Lib.hid rb; clear rb
  have rf0 := hr1.fz 0 (by simp)
  have rf1 := hr1.fz 1 (by simp)
  clear hn1 hr1 hx1
  go_wp2_with fail
  refine bodyPost_ret (v := .tuple #[.agg #[.slice As n.sets.length c0, .slice Ar n.links.length c1], .int .i64 0]) (by simp [results, Try.results147, go_sem, *]) rfl ?_
  exact ⟨rfl, (by repeat (first | exact Ext.refl _ | assumption | refine Ext.alloc ?_ _ | refine Ext.drew ?_ | refine Ext.drewN ?_ _ | refine Ext.setCell ?_ (by first | (simp; done) | (simp; omega) | omega) _ | refine Ext.trans ?_ (by assumption)))⟩
set_option maxHeartbeats 1000000 in
theorem impl_limitedNetwork_no (s k : Value) (n : Net) (w : World) (h : NetIn w s k n) (hl : ¬ Lim n) : Calls Try.prog 147 #[.agg #[s, k]] w (RetX (.tuple #[.agg #[.slice none 0 0, .slice none 0 0], .int .i64 3]) w) := by
  have Hc := Lib.hid (fun (w1 : World) (h1 : Sets w1 0 w1.heap.size s n.sets) => containsFunc_sets s n.sets 202 #[] (fun i => ¬ (setAt n.sets i).length ≤ 300) w1 h1 Try.call202 (fun i w' u hu _ hx => impl_limitedNetwork_1 u (setAt n.sets i) w' (hu.mono (Nat.le_refl _) hx.size)))
  have Hb := Lib.hid (B_true (show Some_ n.sets.length (fun i => ¬ (setAt n.sets i).length ≤ 300) from Classical.byContradiction fun hn => hl (lim_iff.1 hn)))
  have H := Lib.hid h
  clear h hl
  go_enter Try.func147, Try.ntmps147
  go_wp2_with fail
  have nb := (Boxed.new w [s, k] 27).ext ((Ext.refl _).alloc (.cells #[.slice none 0 0, .slice none 0 0] 27)); have nb0 := nb.at0; have nb1 := nb.at1; have nbg := nb.1; have Hnb := Lib.hid nb; clear nb
  refine Calls.mono (Hc.out _ (H.out.up (by repeat (first | exact Ext.refl _ | assumption | refine Ext.alloc ?_ _ | refine Ext.drew ?_ | refine Ext.drewN ?_ _ | refine Ext.setCell ?_ (by first | (simp; done) | (simp; omega) | omega) _ | refine Ext.trans ?_ (by assumption)))).1) ?_
  rintro e w1 ⟨rfl, hx1⟩
  have hx : Ext w w1 := (by repeat (first | exact Ext.refl _ | assumption | refine Ext.alloc ?_ _ | refine Ext.drew ?_ | refine Ext.drewN ?_ _ | refine Ext.setCell ?_ (by first | (simp; done) | (simp; omega) | omega) _ | refine Ext.trans ?_ (by assumption)))
  rw [Hb.out]
  have hr1 : Boxed w1 (w.heap.size + 1) [.slice none 0 0, .slice none 0 0] := by
    have := (Boxed.new (w.alloc (.cells #[s, k] 27)) [.slice none 0 0, .slice none 0 0] 27).ext hx1
    rwa [World.size_alloc] at this
  clear nb0 nb1 nbg Hnb
  have rb := hr1; have rb0 := rb.at0; have rb1 := rb.at1; have rbg := rb.1; have Hrb := Lib.hid rb; clear rb
  have rf0 := hr1.fz 0 (by simp)
  have rf1 := hr1.fz 1 (by simp)
  clear hr1 hx1
  go_wp2_with fail
  refine bodyPost_ret (v := .tuple #[.agg #[.slice none 0 0, .slice none 0 0], .int .i64 3]) (by simp [results, Try.results147, go_sem, *]) rfl ?_
  exact ⟨rfl, (by repeat (first | exact Ext.refl _ | assumption | refine Ext.alloc ?_ _ | refine Ext.drew ?_ | refine Ext.drewN ?_ _ | refine Ext.setCell ?_ (by first | (simp; done) | (simp; omega) | omega) _ | refine Ext.trans ?_ (by assumption)))⟩
set_option maxHeartbeats 1000000 in
theorem spec_l19Result_yes (s k : Value) (n : Net) (w : World) (h : NetIn w s k n) (hd : NetD n) (hl : Lim n) : Calls Try.prog 148 #[.agg #[s, k]] w (RetX (.tuple #[.agg #[s, k], .int .i64 0]) w) := by
  obtain ⟨As, c0, rfl, hns0, hcs0⟩ := h.1.len
  obtain ⟨Ar, c1, rfl, hnk0, hck0⟩ := h.2.len
  have Hb := Lib.hid (B_true ((netOk_iff hd).2 hl))
  have H := Lib.hid h
  clear h hl hd
  go_enter Try.func148, Try.ntmps148
  go_wp2_with fail
  have nb := (Boxed.new w [.slice As n.sets.length c0, .slice Ar n.links.length c1] 27).ext ((Ext.refl _).alloc (.cells #[.slice none 0 0, .slice none 0 0] 27)); have nb0 := nb.at0; have nb1 := nb.at1; have nbg := nb.1; have Hnb := Lib.hid nb; clear nb
  refine Calls.mono (spec_IsNetwork _ _ n _ (H.out.up (by repeat (first | exact Ext.refl _ | assumption | refine Ext.alloc ?_ _ | refine Ext.drew ?_ | refine Ext.drewN ?_ _ | refine Ext.setCell ?_ (by first | (simp; done) | (simp; omega) | omega) _ | refine Ext.trans ?_ (by assumption))))) ?_
  rintro e w1 ⟨rfl, hx1⟩
  have hx : Ext w w1 := (by repeat (first | exact Ext.refl _ | assumption | refine Ext.alloc ?_ _ | refine Ext.drew ?_ | refine Ext.drewN ?_ _ | refine Ext.setCell ?_ (by first | (simp; done) | (simp; omega) | omega) _ | refine Ext.trans ?_ (by assumption)))
  rw [Hb.out]
  have hn1 := Hnb.out.ext hx1
  have hr1 : Boxed w1 (w.heap.size + 1) [.slice none 0 0, .slice none 0 0] := by
    have := (Boxed.new (w.alloc (.cells #[.slice As n.sets.length c0, .slice Ar n.links.length c1] 27)) [.slice none 0 0, .slice none 0 0] 27).ext hx1
    rwa [World.size_alloc] at this
  clear nb0 nb1 nbg Hnb
  have nb := hn1; have nb0 := nb.at0; have nb1 := nb.at1; have nbg := nb.1; have Hnb := Lib.hid nb; clear nb
  have rb := hr1; have rb0 := rb.at0; have rb1 := rb.at1; have rbg := rb.1; have Hrb := Lib.hid rb; clear rb
  have rf0 := hr1.fz 0 (by simp)
  have rf1 := hr1.fz 1 (by simp)
  clear hn1 hr1 hx1
  go_wp2_with fail
  refine bodyPost_ret (v := .tuple #[.agg #[.slice As n.sets.length c0, .slice Ar n.links.length c1], .int .i64 0]) (by simp [results, Try.results148, go_sem, *]) rfl ?_
  exact ⟨rfl, (by repeat (first | exact Ext.refl _ | assumption | refine Ext.alloc ?_ _ | refine Ext.drew ?_ | refine Ext.drewN ?_ _ | refine Ext.setCell ?_ (by first | (simp; done) | (simp; omega) | omega) _ | refine Ext.trans ?_ (by assumption)))⟩
set_option maxHeartbeats 1000000 in
theorem spec_l19Result_no (s k : Value) (n : Net) (w : World) (h : NetIn w s k n) (hd : NetD n) (hl : ¬ Lim n) : Calls Try.prog 148 #[.agg #[s, k]] w (RetX (.tuple #[.agg #[.slice none 0 0, .slice none 0 0], .int .i64 3]) w) := by
  have Hb := Lib.hid (B_false (fun hh => hl ((netOk_iff hd).1 hh)))
  have H := Lib.hid h
  clear h hl hd
  go_enter Try.func148, Try.ntmps148
  go_wp2_with fail
  refine Calls.mono (spec_IsNetwork s k n _ (H.out.up (by repeat (first | exact Ext.refl _ | assumption | refine Ext.alloc ?_ _ | refine Ext.drew ?_ | refine Ext.drewN ?_ _ | refine Ext.setCell ?_ (by first | (simp; done) | (simp; omega) | omega) _ | refine Ext.trans ?_ (by assumption))))) ?_
  rintro e w1 ⟨rfl, hx1⟩
  have hx : Ext w w1 := (by repeat (first | exact Ext.refl _ | assumption | refine Ext.alloc ?_ _ | refine Ext.drew ?_ | refine Ext.drewN ?_ _ | refine Ext.setCell ?_ (by first | (simp; done) | (simp; omega) | omega) _ | refine Ext.trans ?_ (by assumption)))
  rw [Hb.out]
  have hr1 : Boxed w1 (w.heap.size + 1) [.slice none 0 0, .slice none 0 0] := by
    have := (Boxed.new (w.alloc (.cells #[s, k] 27)) [.slice none 0 0, .slice none 0 0] 27).ext hx1
    rwa [World.size_alloc] at this
  have rb := hr1; have rb0 := rb.at0; have rb1 := rb.at1; have rbg := rb.1; have Hrb := Lib.hid rb; clear rb
  have rf0 := hr1.fz 0 (by simp)
  have rf1 := hr1.fz 1 (by simp)
  clear hr1 hx1
  go_wp2_with fail
  refine bodyPost_ret (v := .tuple #[.agg #[.slice none 0 0, .slice none 0 0], .int .i64 3]) (by simp [results, Try.results148, go_sem, *]) rfl ?_
  exact ⟨rfl, (by repeat (first | exact Ext.refl _ | assumption | refine Ext.alloc ?_ _ | refine Ext.drew ?_ | refine Ext.drewN ?_ _ | refine Ext.setCell ?_ (by first | (simp; done) | (simp; omega) | omega) _ | refine Ext.trans ?_ (by assumption)))⟩
set_option maxRecDepth 100000 in
set_option maxHeartbeats 4000000 in
theorem impl_narrowRound (s k : Value) (n : Net) (lo a b : Nat) (w : World) (h : NetS 60 w lo a b s k n) (hn : NetD n) :
    Calls Try.prog 151 #[.agg #[s, k]] w (fun e w' => e = .returned (.tuple #[]) ∧ Off (fun x => a ≤ x ∧ x < b) w w' ∧ NetS 60 w' lo a w'.heap.size s k (narR n)) := by
  obtain ⟨As, cs, rfl, hns, hcs⟩ := h.netIn.1.len
  obtain ⟨Ak, ck, rfl, hnk, hck⟩ := h.netIn.2.len
  have Hsb := Lib.hid (fun (h0 : 0 < n.sets.length) (x : Nat) (hh : (Value.slice As n.sets.length cs).ownBlock = some x) => show a ≤ x ∧ x < b by
    obtain ⟨g0, off, z, rfl, h1, h2, _⟩ := h.cell h0
    have hg : g0 = x := by injection hh
    omega)
  have H := Lib.hid h
  have Hd := Lib.hid hn
  have h20 := hn.nl
  clear h hn
  go_enter Try.func151, Try.ntmps151
  go_wp2_with fail
  go_loopg [7] n.links.length (fun q i wr => ∃ (j b1 : Nat), j + q = n.links.length ∧ i = .int .i64 j ∧ Hid (Off (fun x => a ≤ x ∧ x < b) w wr) ∧ Boxed wr w.heap.size [.slice As n.sets.length cs, .slice Ak n.links.length ck] ∧ Hid (NetS 60 wr lo a b1 (.slice As n.sets.length cs) (.slice Ak n.links.length ck) (narTo n n.links j)))
  case atStart => exact ⟨0, b, by omega, rfl, Lib.hid (Off.of_ext (by repeat (first | exact Ext.refl _ | assumption | refine Ext.alloc ?_ _ | refine Ext.drew ?_ | refine Ext.drewN ?_ _ | refine Ext.setCell ?_ (by first | (simp; done) | (simp; omega) | omega) _ | refine Ext.trans ?_ (by assumption)))), Boxed.new w _ _, Lib.hid (H.out.ext (by repeat (first | exact Ext.refl _ | assumption | refine Ext.alloc ?_ _ | refine Ext.drew ?_ | refine Ext.drewN ?_ _ | refine Ext.setCell ?_ (by first | (simp; done) | (simp; omega) | omega) _ | refine Ext.trans ?_ (by assumption))))⟩
  case round =>
    obtain ⟨j, b', hj, rfl, Hx, hnb, HS⟩ := hrel
    have nb := hnb; have nb0 := nb.at0; have nb1 := nb.at1; have nbg := nb.1; have Hnb := Lib.hid nb; clear nb
    clear hnb
    by_cases hlt : j < n.links.length
    · have hok := narTo_ok Hd.out Hd.out.lks j (by omega)
      have hln : (narTo n n.links j).links = n.links := hok.2.lk
      have Hok := Lib.hid hok
      have HL := Lib.hid (show Links wr 0 wr.heap.size (.slice Ak n.links.length ck) n.links from by have := HS.out.netIn.2; rwa [hln] at this)
      obtain ⟨bl, off, rfl, _, hbl, c1, c2, c3, c4⟩ := HL.out.at_ hlt
      have Hlk0 := Lib.hid (Hd.out.lks j hlt)
      have Hlk := Lib.hid (show LkOk (lkAt n.links j) (narTo n n.links j).sets.length from by rw [hok.2.ns]; exact Hd.out.lks j hlt)
      clear hok hln
      go_wp2_with fail
      have hxa : Ext wr (wr.alloc (.cells #[.int .i64 (lkAt n.links j).be, .int .i64 (lkAt n.links j).af, .int .i64 (lkAt n.links j).le, .int .i64 (lkAt n.links j).mo] 60)) := (by repeat (first | exact Ext.refl _ | assumption | refine Ext.alloc ?_ _ | refine Ext.drew ?_ | refine Ext.drewN ?_ _ | refine Ext.setCell ?_ (by first | (simp; done) | (simp; omega) | omega) _ | refine Ext.trans ?_ (by assumption)))
      refine Calls.mono (impl_narrowLink _ _ (narTo n n.links j) (lkAt n.links j) lo a b' _ (HS.out.ext hxa) Hok.out.1 Hlk.out) ?_
      rintro e w3 ⟨rfl, hO3, hS3⟩
      have hO3' : Off (fun x => a ≤ x ∧ x < b) _ w3 := hO3.mono (fun x hh => Hsb.out (by obtain ⟨⟨x1, x2⟩, _⟩ := Hlk0.out; omega) x hh)
      have hO := (Hx.out.trans (Off.of_ext hxa)).trans hO3'
      have hb3 := (Hnb.out.ext hxa).off hO3' (fun hh => by have := H.out.bw; omega)
      clear c1 c2 c3 c4 nb0 nb1 nbg
      go_wp2_with fail
      go_roundg (n.links.length - (j + 1))
      case measure => omega
      case rel => exact ⟨j + 1, _, by omega, by go_num, Lib.hid hO, hb3, Lib.hid hS3⟩
    · obtain rfl : j = n.links.length := by omega
      go_wp2_with fail
      go_end0
      exact ⟨rfl, Hx.out, ⟨HS.out.la, by have := HS.out.ab; have := HS.out.bw; omega, Nat.le_refl _, HS.out.sets.wide HS.out.bw, HS.out.links, HS.out.lk⟩⟩
theorem NetS.wide {T : TypeId} {w : World} {lo a b : Nat} {s k : Value} {n : Net} (h : NetS T w lo a b s k n) : NetS T w lo a w.heap.size s k n :=
  ⟨h.la, by have := h.ab; have := h.bw; omega, Nat.le_refl _, h.sets.wide h.bw, h.links, h.lk⟩
theorem NetS.of2 {T : TypeId} {n : Net} {w : World} {e : Ending} {w' : World} (h : NewNetL T n w e w') : ∃ A c A' c' a b, e = .returned (.agg #[.slice A n.sets.length c, .slice A' n.links.length c']) ∧ Ext w w' ∧ NetS T w' w.heap.size a b (.slice A n.sets.length c) (.slice A' n.links.length c') n := by
  obtain ⟨s, k, a, b, rfl, h1, h2⟩ := NetS.of h
  obtain ⟨A, c, rfl, _, _⟩ := h2.netIn.1.len
  obtain ⟨A', c', rfl, _, _⟩ := h2.netIn.2.len
  exact ⟨A, c, A', c', a, b, rfl, h1, h2⟩
theorem off_two (r : Nat) (w : World) (u v : Value) : Off (fun x => x = r) w ((w.setCell ⟨r, 0, none⟩ u).setCell ⟨r, 1, none⟩ v) :=
  Off.setCell (S := fun x => x = r) (p := ⟨r, 1, none⟩) (Off.setCell (S := fun x => x = r) (p := ⟨r, 0, none⟩) (Off.refl _ _) (.inl rfl) _) (.inl rfl) _
/-- a box r of the call's own is written -/
theorem NetS.stored {T : TypeId} {n : Net} {w : World} {lo a b r : Nat} {s k u v : Value} (h : NetS T w lo a b s k n) (hr : r < lo) : NetS T ((w.setCell ⟨r, 0, none⟩ u).setCell ⟨r, 1, none⟩ v) lo a b s k n :=
  h.off (off_two r w u v) (fun x hx => .inl ⟨by have := h.la; omega, fun hh => by have := (h.links.lt _ hh).1; omega⟩)
theorem Ext.stored {w w' : World} {r : Nat} {u v : Value} (h : Ext w w') (hr : w.heap.size ≤ r) : Ext w ((w'.setCell ⟨r, 0, none⟩ u).setCell ⟨r, 1, none⟩ v) :=
  h.off (off_two r w' u v) (fun x hx hh => by omega)
theorem NetS.fin2 {T : TypeId} {n : Net} {w w' : World} {lo a b r : Nat} {s k : Value} (c : Int) (hx : Ext w w') (hr : w.heap.size ≤ r) (hlo : r < lo) (h : NetS T w' lo a b s k n) :
    NewNet2 n c w (.returned (.tuple #[.agg #[s, k], .int .i64 c])) ((w'.setCell ⟨r, 0, none⟩ s).setCell ⟨r, 1, none⟩ k) :=
  ⟨s, k, rfl, hx.stored hr, ((h.mono (lo' := w.heap.size) (by omega)).off (off_two r w' s k) (fun x hx => .inl ⟨by have := h.la; omega, fun hh => by have := (h.links.lt _ hh).1; omega⟩)).own⟩
end Go.Proofs.Ytfajmlkiidnhlaa

/- Contract: l19Round. -/
namespace Go.Proofs.Ytfajmlkiidnhlaa
set_option linter.unusedVariables false
set_option linter.unusedSimpArgs false
open Go.RowKit
attribute [local go_sem] cell_onto
set_option maxRecDepth 100000 in
set_option maxHeartbeats 16000000 in
theorem spec_l19Round (s k : Value) (n : Net) (w : World) (h : NetIn w s k n) (hn : NetD n) :
    Calls Try.prog 154 #[.agg #[s, k]] w (NewNetL 60 (narR n) w) := by
  obtain ⟨As, c0, rfl, hns0, hcs0⟩ := h.1.len
  obtain ⟨Ar, c1, rfl, hnk0, hck0⟩ := h.2.len
  have Hsm := Lib.hid hn.small
  have Hd := Lib.hid hn
  have H := Lib.hid h
  have h20 := hn.nl
  clear h hn
  obtain ⟨w0, hw0⟩ : ∃ x : World, x = (w.alloc (.cells #[.slice As n.sets.length c0, .slice Ar n.links.length c1] 27)).alloc (.cells #[.slice none 0 0, .slice none 0 0] 27) := ⟨_, rfl⟩
  have hz0 : w0.heap.size = w.heap.size + 1 + 1 := by rw [hw0]; simp
  have Hx0 : Hid (Ext w w0) := Lib.hid (by rw [hw0]; exact (by repeat (first | exact Ext.refl _ | assumption | refine Ext.alloc ?_ _ | refine Ext.drew ?_ | refine Ext.drewN ?_ _ | refine Ext.setCell ?_ (by first | (simp; done) | (simp; omega) | omega) _ | refine Ext.trans ?_ (by assumption))))
  have Hnb : Hid (Boxed w0 w.heap.size [.slice As n.sets.length c0, .slice Ar n.links.length c1]) := Lib.hid (by
    rw [hw0]
    exact (Boxed.new w [.slice As n.sets.length c0, .slice Ar n.links.length c1] 27).ext ((Ext.refl _).alloc _))
  have Hrb : Hid (Boxed w0 (w.heap.size + 1) [.slice none 0 0, .slice none 0 0]) := Lib.hid (by
    have := Boxed.new (w.alloc (.cells #[.slice As n.sets.length c0, .slice Ar n.links.length c1] 27)) [.slice none 0 0, .slice none 0 0] 27
    rw [World.size_alloc] at this
    rw [hw0]
    exact this)
  have Hw0 := Lib.hid hw0
  clear hw0
  go_enter Try.func154, Try.ntmps154
  go_wp2_with fail
  rw [← Hw0.out]
  refine Calls.mono (spec_l18Own _ _ n _ (H.out.up Hx0.out) Hsm.out) ?_
  rintro e w3 hnew
  obtain ⟨so, ko, a, b, rfl, hx3, hS3⟩ := NetS.of hnew
  obtain ⟨Ao, co, rfl, hns3, hcs3⟩ := hS3.netIn.1.len
  obtain ⟨Aq, cq, rfl, hnk3, hck3⟩ := hS3.netIn.2.len
  have hz3 := hx3.size
  have hxb : Ext w3 (w3.alloc (.cells #[.slice Ao n.sets.length co, .slice Aq n.links.length cq] 27)) := (by repeat (first | exact Ext.refl _ | assumption | refine Ext.alloc ?_ _ | refine Ext.drew ?_ | refine Ext.drewN ?_ _ | refine Ext.setCell ?_ (by first | (simp; done) | (simp; omega) | omega) _ | refine Ext.trans ?_ (by assumption)))
  have hbo := Boxed.new w3 [.slice Ao n.sets.length co, .slice Aq n.links.length cq] 27
  have Hst := Lib.hid (show ∃ (a b : Nat) (s' k' : Value), Ext w (w3.alloc (.cells #[.slice Ao n.sets.length co, .slice Aq n.links.length cq] 27)) ∧ Boxed (w3.alloc (.cells #[.slice Ao n.sets.length co, .slice Aq n.links.length cq] 27)) w.heap.size [.slice As n.sets.length c0, .slice Ar n.links.length c1] ∧ Boxed (w3.alloc (.cells #[.slice Ao n.sets.length co, .slice Aq n.links.length cq] 27)) (w.heap.size + 1) [.slice none 0 0, .slice none 0 0] ∧ Boxed (w3.alloc (.cells #[.slice Ao n.sets.length co, .slice Aq n.links.length cq] 27)) w3.heap.size [s', k'] ∧ NetS 60 (w3.alloc (.cells #[.slice Ao n.sets.length co, .slice Aq n.links.length cq] 27)) w0.heap.size a b s' k' (narTo n n.links 0) from
    ⟨a, b, _, _, (Hx0.out.trans hx3).trans hxb, (Hnb.out.ext hx3).ext hxb, (Hrb.out.ext hx3).ext hxb, hbo, hS3.ext hxb⟩)
  clear hx3 hS3 hxb hbo hnew Hnb Hrb Hw0
  go_wp2_with fail
  go_loopg [4] n.links.length (fun q i wr => ∃ (j : Nat), j + q = n.links.length ∧ i = .int .i64 j ∧ Hid (∃ (a b : Nat) (s' k' : Value), Ext w wr ∧ Boxed wr w.heap.size [.slice As n.sets.length c0, .slice Ar n.links.length c1] ∧ Boxed wr (w.heap.size + 1) [.slice none 0 0, .slice none 0 0] ∧ Boxed wr w3.heap.size [s', k'] ∧ NetS 60 wr w0.heap.size a b s' k' (narTo n n.links j)))
  case atStart => exact ⟨0, by omega, rfl, Hst⟩
  clear Hst
  case round =>
    obtain ⟨j, hj, rfl, Hst⟩ := hrel
    obtain ⟨a', b', s', k', hx, hnb, hrb, hob, hS⟩ := Hst.out
    have HS := Lib.hid hS
    have Hrb := Lib.hid hrb
    have nb := hnb; have nb0 := nb.at0; have nb1 := nb.at1; have nbg := nb.1; have Hnb := Lib.hid nb; clear nb
    have ob := hob; have ob0 := ob.at0; have ob1 := ob.at1; have obg := ob.1; have Hob := Lib.hid ob; clear ob
    clear hnb hob hS hrb Hst
    by_cases hlt : j < n.links.length
    · have hok := narTo_ok Hd.out Hd.out.lks j (by omega)
      have Hok := Lib.hid hok
      obtain ⟨bl, off, rfl, _, hbl, q1, q2, q3, q4⟩ := (H.out.2.ext hx (Nat.le_refl _)).at_ hlt
      have hbr : bl < wr.heap.size := Nat.lt_of_lt_of_le hbl hx.size
      have Hlk := Lib.hid (show LkOk (lkAt n.links j) (narTo n n.links j).sets.length from by rw [hok.2.ns]; exact Hd.out.lks j hlt)
      clear hok
      go_wp2_with fail
      go_region_law (first
        | (go_simp; go_at_call 149; refine Calls.mono (spec_l19Link s' k' (narTo n n.links j) (lkAt n.links j) _ (HS.out.netIn.up (by repeat (first | exact Ext.refl _ | assumption | refine Ext.alloc ?_ _ | refine Ext.drew ?_ | refine Ext.drewN ?_ _ | refine Ext.setCell ?_ (by first | (simp; done) | (simp; omega) | omega) _ | refine Ext.trans ?_ (by assumption)))) Hok.out.1 Hlk.out) ?_; rintro e w4 hnew4; obtain ⟨s4, k4, a4, b4, rfl, hx4, hS4⟩ := NetS.of hnew4; obtain ⟨A4, c4, rfl, _, _⟩ := hS4.netIn.1.len; obtain ⟨A5, c5, rfl, _, _⟩ := hS4.netIn.2.len; have hS5 : NetS 60 w4 wr.heap.size a4 b4 (.slice A4 (narTo n n.links (j + 1)).sets.length c4) (.slice A5 (narTo n n.links (j + 1)).links.length c5) (narTo n n.links (j + 1)) := hS4.mono (by first | exact Nat.le_refl _ | simp); have hxw : Ext wr w4 := (by repeat (first | exact Ext.refl _ | assumption | refine Ext.alloc ?_ _ | refine Ext.drew ?_ | refine Ext.drewN ?_ _ | refine Ext.setCell ?_ (by first | (simp; done) | (simp; omega) | omega) _ | refine Ext.trans ?_ (by assumption))); have HS5 := Lib.hid hS5; have xb := Hob.out.ext hxw; have xb0 := xb.at0; have xb1 := xb.at1; have xbg := xb.1; have Hxb := Lib.hid xb; clear xb; have xf0 := Hxb.out.fz 0 (by simp); have xf1 := Hxb.out.fz 1 (by simp); clear hx4 hS4 hS5 hnew4))
      all_goals
        have hz4 := hxw.size
        have hx4 := hx.trans hxw
        have hO : Off (fun k => k = w3.heap.size) w4 ((w4.setCell ⟨w3.heap.size, 0, none⟩ (.slice A4 (narTo n n.links (j + 1)).sets.length c4)).setCell ⟨w3.heap.size, 1, none⟩ (.slice A5 (narTo n n.links (j + 1)).links.length c5)) :=
          Off.setCell (S := fun k => k = w3.heap.size) (p := ⟨w3.heap.size, 1, none⟩) (Off.setCell (S := fun k => k = w3.heap.size) (p := ⟨w3.heap.size, 0, none⟩) (Off.refl _ _) (.inl rfl) _) (.inl rfl) _
        have Hfin := Lib.hid (show ∃ (a b : Nat) (s' k' : Value), Ext w ((w4.setCell ⟨w3.heap.size, 0, none⟩ (.slice A4 (narTo n n.links (j + 1)).sets.length c4)).setCell ⟨w3.heap.size, 1, none⟩ (.slice A5 (narTo n n.links (j + 1)).links.length c5)) ∧ Boxed ((w4.setCell ⟨w3.heap.size, 0, none⟩ (.slice A4 (narTo n n.links (j + 1)).sets.length c4)).setCell ⟨w3.heap.size, 1, none⟩ (.slice A5 (narTo n n.links (j + 1)).links.length c5)) w.heap.size [.slice As n.sets.length c0, .slice (some ⟨bl, off, none⟩) n.links.length c1] ∧ Boxed ((w4.setCell ⟨w3.heap.size, 0, none⟩ (.slice A4 (narTo n n.links (j + 1)).sets.length c4)).setCell ⟨w3.heap.size, 1, none⟩ (.slice A5 (narTo n n.links (j + 1)).links.length c5)) (w.heap.size + 1) [.slice none 0 0, .slice none 0 0] ∧ Boxed ((w4.setCell ⟨w3.heap.size, 0, none⟩ (.slice A4 (narTo n n.links (j + 1)).sets.length c4)).setCell ⟨w3.heap.size, 1, none⟩ (.slice A5 (narTo n n.links (j + 1)).links.length c5)) w3.heap.size [s', k'] ∧ NetS 60 ((w4.setCell ⟨w3.heap.size, 0, none⟩ (.slice A4 (narTo n n.links (j + 1)).sets.length c4)).setCell ⟨w3.heap.size, 1, none⟩ (.slice A5 (narTo n n.links (j + 1)).links.length c5)) w0.heap.size a b s' k' (narTo n n.links (j + 1)) from
          ⟨a4, b4, _, _, hx4.off hO (fun k hk hh => by omega), (Hnb.out.ext hxw).off hO (by omega), (Hrb.out.ext hxw).off hO (by omega), (Hxb.out.set 0 _ (by simp)).set 1 _ (by simp),
            (HS5.out.mono (by have := Hob.out.1; omega)).off hO (fun x hx => .inl ⟨by have := HS5.out.la; have := Hob.out.1; omega, fun hh => by have := (HS5.out.links.lt _ hh).1; have := Hob.out.1; omega⟩)⟩)
        clear hO hx4 hxw
        go_wp2_with fail
        go_roundg (n.links.length - (j + 1))
        case measure => omega
        case rel => exact ⟨j + 1, by omega, by go_num, Hfin⟩
    · obtain rfl : j = n.links.length := by omega
      obtain ⟨A4, c4, rfl, _, _⟩ := HS.out.netIn.1.len
      obtain ⟨A5, c5, rfl, _, _⟩ := HS.out.netIn.2.len
      have rb := Hrb.out; have rb0 := rb.at0; have rb1 := rb.at1; have rbg := rb.1; have Hrb := Lib.hid rb; clear rb
      have rf0 := Hrb.out.fz 0 (by simp)
      have rf1 := Hrb.out.fz 1 (by simp)
      go_wp2_with fail
      refine bodyPost_ret (v := .agg #[.slice A4 (narTo n n.links n.links.length).sets.length c4, .slice A5 (narTo n n.links n.links.length).links.length c5]) (by simp [results, Try.results154, go_sem, *]) rfl ?_
      have hO : Off (fun k => k = w.heap.size + 1) wr ((wr.setCell ⟨w.heap.size + 1, 0, none⟩ (.slice A4 (narTo n n.links n.links.length).sets.length c4)).setCell ⟨w.heap.size + 1, 1, none⟩ (.slice A5 (narTo n n.links n.links.length).links.length c5)) :=
        Off.setCell (S := fun k => k = w.heap.size + 1) (p := ⟨w.heap.size + 1, 1, none⟩) (Off.setCell (S := fun k => k = w.heap.size + 1) (p := ⟨w.heap.size + 1, 0, none⟩) (Off.refl _ _) (.inl rfl) _) (.inl rfl) _
      refine NetS.to (hx.off hO (fun k hk hh => by omega)) ((HS.out.mono (by omega)).off hO (fun x hx => .inl ⟨by have := HS.out.la; omega, fun hh => ?_⟩))
      have := (HS.out.links.lt _ hh).1
      omega
end Go.Proofs.Ytfajmlkiidnhlaa
