/- Texts merged (a claim holds at most sixty files): Lm, Lr. -/
import Derived.Test.YtfajmlkiidnhlaaGreatQ3Pe
import Derived.Test.YtfajmlkiidnhlaaGreatQ3Na
import Derived.Test.YtfajmlkiidnhlaaGreatQ3A
import Derived.Deep.RegionLaw
/- Contracts: limitedNetwork, l19Result; the rounds of narrowing. -/
namespace Go.Proofs.YtfajmlkiidnhlaaGreat
set_option linter.unusedVariables false
set_option linter.unusedSimpArgs false
open Go.RowKit
attribute [local go_sem] cell_onto

theorem lim_iff {n : Net} : ¬ Some_ n.sets.length (fun i => ¬ (setAt n.sets i).length ≤ 300) ↔ Lim n := by
  unfold Some_ Lim
  constructor
  · intro h i hi
    exact Classical.byContradiction fun hn => h ⟨i, hi, hn⟩
  · rintro h ⟨i, hi, hn⟩
    exact hn (h i hi)
theorem OwnSets.wide {w : World} {lo b b' : Nat} {s : Value} {l : List (List Sp)} (h : OwnSets w lo b s l) (hb : b ≤ b') : OwnSets w lo b' s l := by
  obtain ⟨g0, f, g, h1, h2, h3, h4⟩ := h
  exact ⟨g0, f, g, h1, fun h0 => ⟨(h2 h0).1, by have := (h2 h0).2; omega⟩, fun i hi => ⟨(h3 i hi).1, fun h0 => ⟨((h3 i hi).2 h0).1, by have := ((h3 i hi).2 h0).2.1; omega, ((h3 i hi).2 h0).2.2⟩⟩, h4⟩
set_option maxHeartbeats 400000 in
theorem impl_limitedNetwork_1 (v : Value) (l : List Sp) (w : World) (h : Spans w 0 w.heap.size v l) : Calls Tryz.prog 126 #[v] w (RetX (.bool (B (¬ l.length ≤ 300))) w) := by
  obtain ⟨A, c, rfl, hn, hc⟩ := h.len
  clear h
  go_enter Tryz.func126, Tryz.ntmps126
  go_wp2_with fail
  go_ret
  refine ⟨ret_bool (B_eq ?_), (by repeat (first | exact Ext.refl _ | assumption | refine Ext.alloc ?_ _ | refine Ext.drew ?_ | refine Ext.drewN ?_ _ | refine Ext.setCell ?_ (by first | (simp; done) | (simp; omega) | omega) _ | refine Ext.trans ?_ (by assumption)))⟩
  simp only [decide_eq_true_eq]
  omega
set_option maxHeartbeats 1000000 in
theorem impl_limitedNetwork_yes (s k : Value) (n : Net) (w : World) (h : NetIn w s k n) (hl : Lim n) : Calls Tryz.prog 68 #[.agg #[s, k]] w (RetX (.tuple #[.agg #[s, k], .int .i64 0]) w) := by
  obtain ⟨As, c0, rfl, hns0, hcs0⟩ := h.1.len
  obtain ⟨Ar, c1, rfl, hnk0, hck0⟩ := h.2.len
  have Hc := Lib.hid (fun (w1 : World) (h1 : Sets w1 0 w1.heap.size (.slice As n.sets.length c0) n.sets) => containsFunc_sets (.slice As n.sets.length c0) n.sets 126 #[] (fun i => ¬ (setAt n.sets i).length ≤ 300) w1 h1 Tryz.call126 (fun i w' u hu _ hx => impl_limitedNetwork_1 u (setAt n.sets i) w' (hu.mono (Nat.le_refl _) hx.size)))
  have Hb := Lib.hid (B_false (fun hh => lim_iff.2 hl hh))
  have H := Lib.hid h
  clear h hl
  go_enter Tryz.func68, Tryz.ntmps68
  go_wp2_with fail
  have nb := (Boxed.new w [.slice As n.sets.length c0, .slice Ar n.links.length c1] 27).ext ((Ext.refl _).alloc (.cells #[.slice none 0 0, .slice none 0 0] 27)); have nb0 := nb.at0; have nb1 := nb.at1; have nbg := nb.1; have Hnb := Lib.hid nb; clear nb
  refine Calls.mono (Hc.out _ (H.out.up (by repeat (first | exact Ext.refl _ | assumption | refine Ext.alloc ?_ _ | refine Ext.drew ?_ | refine Ext.drewN ?_ _ | refine Ext.setCell ?_ (by first | (simp; done) | (simp; omega) | omega) _ | refine Ext.trans ?_ (by assumption)))).1) ?_
  rintro e w1 ⟨rfl, hx1⟩
  have hx : Ext w w1 := (by repeat (first | exact Ext.refl _ | assumption | refine Ext.alloc ?_ _ | refine Ext.drew ?_ | refine Ext.drewN ?_ _ | refine Ext.setCell ?_ (by first | (simp; done) | (simp; omega) | omega) _ | refine Ext.trans ?_ (by assumption)))
  rw [Hb.out]
  have hn1 := Hnb.out.ext hx1
  have hr1 : Boxed w1 (w.heap.size + 1) [.slice none 0 0, .slice none 0 0] := by
    have := (Boxed.new (w.alloc (.cells #[.slice As n.sets.length c0, .slice Ar n.links.length c1] 27)) [.slice none 0 0, .slice none 0 0] 27).ext hx1
    rwa [World.size_alloc] at this
  clear nb0 nb1 nbg Hnb
  have nb := hn1; have nb0 := nb.at0; have nb1 := nb.at1; have nbg := nb.1; have Hnb := Lib.hid nb; clear nb
  have rb := hr1; have rb0 := rb.at0; have rb1 := rb.at1; have rbg := rb.1; have Hrb := Lib.hid rb; clear rb
  have rf0 := hr1.fz 0 (by simp)
  have rf1 := hr1.fz 1 (by simp)
  clear hn1 hr1 hx1
  go_wp2_with fail
  refine bodyPost_ret (v := .tuple #[.agg #[.slice As n.sets.length c0, .slice Ar n.links.length c1], .int .i64 0]) (by simp [results, Tryz.results68, go_sem, *]) rfl ?_
  exact ⟨rfl, (by repeat (first | exact Ext.refl _ | assumption | refine Ext.alloc ?_ _ | refine Ext.drew ?_ | refine Ext.drewN ?_ _ | refine Ext.setCell ?_ (by first | (simp; done) | (simp; omega) | omega) _ | refine Ext.trans ?_ (by assumption)))⟩
set_option maxHeartbeats 1000000 in
theorem impl_limitedNetwork_no (s k : Value) (n : Net) (w : World) (h : NetIn w s k n) (hl : ¬ Lim n) : Calls Tryz.prog 68 #[.agg #[s, k]] w (RetX (.tuple #[.agg #[.slice none 0 0, .slice none 0 0], .int .i64 3]) w) := by
  have Hc := Lib.hid (fun (w1 : World) (h1 : Sets w1 0 w1.heap.size s n.sets) => containsFunc_sets s n.sets 126 #[] (fun i => ¬ (setAt n.sets i).length ≤ 300) w1 h1 Tryz.call126 (fun i w' u hu _ hx => impl_limitedNetwork_1 u (setAt n.sets i) w' (hu.mono (Nat.le_refl _) hx.size)))
  have Hb := Lib.hid (B_true (show Some_ n.sets.length (fun i => ¬ (setAt n.sets i).length ≤ 300) from Classical.byContradiction fun hn => hl (lim_iff.1 hn)))
  have H := Lib.hid h
  clear h hl
  go_enter Tryz.func68, Tryz.ntmps68
  go_wp2_with fail
  have nb := (Boxed.new w [s, k] 27).ext ((Ext.refl _).alloc (.cells #[.slice none 0 0, .slice none 0 0] 27)); have nb0 := nb.at0; have nb1 := nb.at1; have nbg := nb.1; have Hnb := Lib.hid nb; clear nb
  refine Calls.mono (Hc.out _ (H.out.up (by repeat (first | exact Ext.refl _ | assumption | refine Ext.alloc ?_ _ | refine Ext.drew ?_ | refine Ext.drewN ?_ _ | refine Ext.setCell ?_ (by first | (simp; done) | (simp; omega) | omega) _ | refine Ext.trans ?_ (by assumption)))).1) ?_
  rintro e w1 ⟨rfl, hx1⟩
  have hx : Ext w w1 := (by repeat (first | exact Ext.refl _ | assumption | refine Ext.alloc ?_ _ | refine Ext.drew ?_ | refine Ext.drewN ?_ _ | refine Ext.setCell ?_ (by first | (simp; done) | (simp; omega) | omega) _ | refine Ext.trans ?_ (by assumption)))
  rw [Hb.out]
  have hr1 : Boxed w1 (w.heap.size + 1) [.slice none 0 0, .slice none 0 0] := by
    have := (Boxed.new (w.alloc (.cells #[s, k] 27)) [.slice none 0 0, .slice none 0 0] 27).ext hx1
    rwa [World.size_alloc] at this
  clear nb0 nb1 nbg Hnb
  have rb := hr1; have rb0 := rb.at0; have rb1 := rb.at1; have rbg := rb.1; have Hrb := Lib.hid rb; clear rb
  have rf0 := hr1.fz 0 (by simp)
  have rf1 := hr1.fz 1 (by simp)
  clear hr1 hx1
  go_wp2_with fail
  refine bodyPost_ret (v := .tuple #[.agg #[.slice none 0 0, .slice none 0 0], .int .i64 3]) (by simp [results, Tryz.results68, go_sem, *]) rfl ?_
  exact ⟨rfl, (by repeat (first | exact Ext.refl _ | assumption | refine Ext.alloc ?_ _ | refine Ext.drew ?_ | refine Ext.drewN ?_ _ | refine Ext.setCell ?_ (by first | (simp; done) | (simp; omega) | omega) _ | refine Ext.trans ?_ (by assumption)))⟩
set_option maxHeartbeats 1000000 in
theorem spec_l19Result_yes (s k : Value) (n : Net) (w : World) (h : NetIn w s k n) (hd : NetD n) (hl : Lim n) : Calls Tryz.prog 76 #[.agg #[s, k]] w (RetX (.tuple #[.agg #[s, k], .int .i64 0]) w) := by
  obtain ⟨As, c0, rfl, hns0, hcs0⟩ := h.1.len
  obtain ⟨Ar, c1, rfl, hnk0, hck0⟩ := h.2.len
  have Hb := Lib.hid (B_true ((netOk_iff hd).2 hl))
  have H := Lib.hid h
  clear h hl hd
  go_enter Tryz.func76, Tryz.ntmps76
  go_wp2_with fail
  have nb := (Boxed.new w [.slice As n.sets.length c0, .slice Ar n.links.length c1] 27).ext ((Ext.refl _).alloc (.cells #[.slice none 0 0, .slice none 0 0] 27)); have nb0 := nb.at0; have nb1 := nb.at1; have nbg := nb.1; have Hnb := Lib.hid nb; clear nb
  refine Calls.mono (spec_IsNetwork _ _ n _ (H.out.up (by repeat (first | exact Ext.refl _ | assumption | refine Ext.alloc ?_ _ | refine Ext.drew ?_ | refine Ext.drewN ?_ _ | refine Ext.setCell ?_ (by first | (simp; done) | (simp; omega) | omega) _ | refine Ext.trans ?_ (by assumption))))) ?_
  rintro e w1 ⟨rfl, hx1⟩
  have hx : Ext w w1 := (by repeat (first | exact Ext.refl _ | assumption | refine Ext.alloc ?_ _ | refine Ext.drew ?_ | refine Ext.drewN ?_ _ | refine Ext.setCell ?_ (by first | (simp; done) | (simp; omega) | omega) _ | refine Ext.trans ?_ (by assumption)))
  rw [Hb.out]
  have hn1 := Hnb.out.ext hx1
  have hr1 : Boxed w1 (w.heap.size + 1) [.slice none 0 0, .slice none 0 0] := by
    have := (Boxed.new (w.alloc (.cells #[.slice As n.sets.length c0, .slice Ar n.links.length c1] 27)) [.slice none 0 0, .slice none 0 0] 27).ext hx1
    rwa [World.size_alloc] at this
  clear nb0 nb1 nbg Hnb
  have nb := hn1; have nb0 := nb.at0; have nb1 := nb.at1; have nbg := nb.1; have Hnb := Lib.hid nb; clear nb
  have rb := hr1; have rb0 := rb.at0; have rb1 := rb.at1; have rbg := rb.1; have Hrb := Lib.hid rb; clear rb
  have rf0 := hr1.fz 0 (by simp)
  have rf1 := hr1.fz 1 (by simp)
  clear hn1 hr1 hx1
  go_wp2_with fail
  refine bodyPost_ret (v := .tuple #[.agg #[.slice As n.sets.length c0, .slice Ar n.links.length c1], .int .i64 0]) (by simp [results, Tryz.results76, go_sem, *]) rfl ?_
  exact ⟨rfl, (by repeat (first | exact Ext.refl _ | assumption | refine Ext.alloc ?_ _ | refine Ext.drew ?_ | refine Ext.drewN ?_ _ | refine Ext.setCell ?_ (by first | (simp; done) | (simp; omega) | omega) _ | refine Ext.trans ?_ (by assumption)))⟩
set_option maxHeartbeats 1000000 in
theorem spec_l19Result_no (s k : Value) (n : Net) (w : World) (h : NetIn w s k n) (hd : NetD n) (hl : ¬ Lim n) : Calls Tryz.prog 76 #[.agg #[s, k]] w (RetX (.tuple #[.agg #[.slice none 0 0, .slice none 0 0], .int .i64 3]) w) := by
  have Hb := Lib.hid (B_false (fun hh => hl ((netOk_iff hd).1 hh)))
  have H := Lib.hid h
  clear h hl hd
  go_enter Tryz.func76, Tryz.ntmps76
  go_wp2_with fail
  refine Calls.mono (spec_IsNetwork s k n _ (H.out.up (by repeat (first | exact Ext.refl _ | assumption | refine Ext.alloc ?_ _ | refine Ext.drew ?_ | refine Ext.drewN ?_ _ | refine Ext.setCell ?_ (by first | (simp; done) | (simp; omega) | omega) _ | refine Ext.trans ?_ (by assumption))))) ?_
  rintro e w1 ⟨rfl, hx1⟩
  have hx : Ext w w1 := (by repeat (first | exact Ext.refl _ | assumption | refine Ext.alloc ?_ _ | refine Ext.drew ?_ | refine Ext.drewN ?_ _ | refine Ext.setCell ?_ (by first | (simp; done) | (simp; omega) | omega) _ | refine Ext.trans ?_ (by assumption)))
  rw [Hb.out]
  have hr1 : Boxed w1 (w.heap.size + 1) [.slice none 0 0, .slice none 0 0] := by
    have := (Boxed.new (w.alloc (.cells #[s, k] 27)) [.slice none 0 0, .slice none 0 0] 27).ext hx1
    rwa [World.size_alloc] at this
  have rb := hr1; have rb0 := rb.at0; have rb1 := rb.at1; have rbg := rb.1; have Hrb := Lib.hid rb; clear rb
  have rf0 := hr1.fz 0 (by simp)
  have rf1 := hr1.fz 1 (by simp)
  clear hr1 hx1
  go_wp2_with fail
  refine bodyPost_ret (v := .tuple #[.agg #[.slice none 0 0, .slice none 0 0], .int .i64 3]) (by simp [results, Tryz.results76, go_sem, *]) rfl ?_
  exact ⟨rfl, (by repeat (first | exact Ext.refl _ | assumption | refine Ext.alloc ?_ _ | refine Ext.drew ?_ | refine Ext.drewN ?_ _ | refine Ext.setCell ?_ (by first | (simp; done) | (simp; omega) | omega) _ | refine Ext.trans ?_ (by assumption)))⟩
set_option maxRecDepth 100000 in
set_option maxHeartbeats 4000000 in
theorem impl_narrowRound (s k : Value) (n : Net) (lo a b : Nat) (w : World) (h : NetS 98 w lo a b s k n) (hn : NetD n) :
    Calls Tryz.prog 66 #[.agg #[s, k]] w (fun e w' => e = .returned (.tuple #[]) ∧ Off (fun x => a ≤ x ∧ x < b) w w' ∧ NetS 98 w' lo a w'.heap.size s k (narR n)) := by
  obtain ⟨As, cs, rfl, hns, hcs⟩ := h.netIn.1.len
  obtain ⟨Ak, ck, rfl, hnk, hck⟩ := h.netIn.2.len
  have Hsb := Lib.hid (fun (h0 : 0 < n.sets.length) (x : Nat) (hh : (Value.slice As n.sets.length cs).ownBlock = some x) => show a ≤ x ∧ x < b by
    obtain ⟨g0, off, z, rfl, h1, h2, _⟩ := h.cell h0
    have hg : g0 = x := by injection hh
    omega)
  have H := Lib.hid h
  have Hd := Lib.hid hn
  have h20 := hn.nl
  clear h hn
  go_enter Tryz.func66, Tryz.ntmps66
  go_wp2_with fail
  go_loopg [7] n.links.length (fun q i wr => ∃ (j b1 : Nat), j + q = n.links.length ∧ i = .int .i64 j ∧ Hid (Off (fun x => a ≤ x ∧ x < b) w wr) ∧ Boxed wr w.heap.size [.slice As n.sets.length cs, .slice Ak n.links.length ck] ∧ Hid (NetS 98 wr lo a b1 (.slice As n.sets.length cs) (.slice Ak n.links.length ck) (narTo n n.links j)))
  case atStart => exact ⟨0, b, by omega, rfl, Lib.hid (Off.of_ext (by repeat (first | exact Ext.refl _ | assumption | refine Ext.alloc ?_ _ | refine Ext.drew ?_ | refine Ext.drewN ?_ _ | refine Ext.setCell ?_ (by first | (simp; done) | (simp; omega) | omega) _ | refine Ext.trans ?_ (by assumption)))), Boxed.new w _ _, Lib.hid (H.out.ext (by repeat (first | exact Ext.refl _ | assumption | refine Ext.alloc ?_ _ | refine Ext.drew ?_ | refine Ext.drewN ?_ _ | refine Ext.setCell ?_ (by first | (simp; done) | (simp; omega) | omega) _ | refine Ext.trans ?_ (by assumption))))⟩
  case round =>
    obtain ⟨j, b', hj, rfl, Hx, hnb, HS⟩ := hrel
    have nb := hnb; have nb0 := nb.at0; have nb1 := nb.at1; have nbg := nb.1; have Hnb := Lib.hid nb; clear nb
    clear hnb
    by_cases hlt : j < n.links.length
    · have hok := narTo_ok Hd.out Hd.out.lks j (by omega)
      have hln : (narTo n n.links j).links = n.links := hok.2.lk
      have Hok := Lib.hid hok
      have HL := Lib.hid (show Links wr 0 wr.heap.size (.slice Ak n.links.length ck) n.links from by have := HS.out.netIn.2; rwa [hln] at this)
      obtain ⟨bl, off, rfl, _, hbl, c1, c2, c3, c4⟩ := HL.out.at_ hlt
      have Hlk0 := Lib.hid (Hd.out.lks j hlt)
      have Hlk := Lib.hid (show LkOk (lkAt n.links j) (narTo n n.links j).sets.length from by rw [hok.2.ns]; exact Hd.out.lks j hlt)
      clear hok hln
      go_wp2_with fail
      have hxa : Ext wr (wr.alloc (.cells #[.int .i64 (lkAt n.links j).be, .int .i64 (lkAt n.links j).af, .int .i64 (lkAt n.links j).le, .int .i64 (lkAt n.links j).mo] 98)) := (by repeat (first | exact Ext.refl _ | assumption | refine Ext.alloc ?_ _ | refine Ext.drew ?_ | refine Ext.drewN ?_ _ | refine Ext.setCell ?_ (by first | (simp; done) | (simp; omega) | omega) _ | refine Ext.trans ?_ (by assumption)))
      refine Calls.mono (impl_narrowLink _ _ (narTo n n.links j) (lkAt n.links j) lo a b' _ (HS.out.ext hxa) Hok.out.1 Hlk.out) ?_
      rintro e w3 ⟨rfl, hO3, hS3⟩
      have hO3' : Off (fun x => a ≤ x ∧ x < b) _ w3 := hO3.mono (fun x hh => Hsb.out (by obtain ⟨⟨x1, x2⟩, _⟩ := Hlk0.out; omega) x hh)
      have hO := (Hx.out.trans (Off.of_ext hxa)).trans hO3'
      have hb3 := (Hnb.out.ext hxa).off hO3' (fun hh => by have := H.out.bw; omega)
      clear c1 c2 c3 c4 nb0 nb1 nbg
      go_wp2_with fail
      go_roundg (n.links.length - (j + 1))
      case measure => omega
      case rel => exact ⟨j + 1, _, by omega, by go_num, Lib.hid hO, hb3, Lib.hid hS3⟩
    · obtain rfl : j = n.links.length := by omega
      go_wp2_with fail
      go_end0
      exact ⟨rfl, Hx.out, ⟨HS.out.la, by have := HS.out.ab; have := HS.out.bw; omega, Nat.le_refl _, HS.out.sets.wide HS.out.bw, HS.out.links, HS.out.lk⟩⟩
theorem NetS.wide {T : TypeId} {w : World} {lo a b : Nat} {s k : Value} {n : Net} (h : NetS T w lo a b s k n) : NetS T w lo a w.heap.size s k n :=
  ⟨h.la, by have := h.ab; have := h.bw; omega, Nat.le_refl _, h.sets.wide h.bw, h.links, h.lk⟩
theorem NetS.of2 {T : TypeId} {n : Net} {w : World} {e : Ending} {w' : World} (h : NewNetL T n w e w') : ∃ A c A' c' a b, e = .returned (.agg #[.slice A n.sets.length c, .slice A' n.links.length c']) ∧ Ext w w' ∧ NetS T w' w.heap.size a b (.slice A n.sets.length c) (.slice A' n.links.length c') n := by
  obtain ⟨s, k, a, b, rfl, h1, h2⟩ := NetS.of h
  obtain ⟨A, c, rfl, _, _⟩ := h2.netIn.1.len
  obtain ⟨A', c', rfl, _, _⟩ := h2.netIn.2.len
  exact ⟨A, c, A', c', a, b, rfl, h1, h2⟩
theorem off_two (r : Nat) (w : World) (u v : Value) : Off (fun x => x = r) w ((w.setCell ⟨r, 0, none⟩ u).setCell ⟨r, 1, none⟩ v) :=
  Off.setCell (S := fun x => x = r) (p := ⟨r, 1, none⟩) (Off.setCell (S := fun x => x = r) (p := ⟨r, 0, none⟩) (Off.refl _ _) (.inl rfl) _) (.inl rfl) _
/-- a box r of the call's own is written -/
theorem NetS.stored {T : TypeId} {n : Net} {w : World} {lo a b r : Nat} {s k u v : Value} (h : NetS T w lo a b s k n) (hr : r < lo) : NetS T ((w.setCell ⟨r, 0, none⟩ u).setCell ⟨r, 1, none⟩ v) lo a b s k n :=
  h.off (off_two r w u v) (fun x hx => .inl ⟨by have := h.la; omega, fun hh => by have := (h.links.lt _ hh).1; omega⟩)
theorem Ext.stored {w w' : World} {r : Nat} {u v : Value} (h : Ext w w') (hr : w.heap.size ≤ r) : Ext w ((w'.setCell ⟨r, 0, none⟩ u).setCell ⟨r, 1, none⟩ v) :=
  h.off (off_two r w' u v) (fun x hx hh => by omega)
theorem NetS.fin2 {T : TypeId} {n : Net} {w w' : World} {lo a b r : Nat} {s k : Value} (c : Int) (hx : Ext w w') (hr : w.heap.size ≤ r) (hlo : r < lo) (h : NetS T w' lo a b s k n) :
    NewNet2 n c w (.returned (.tuple #[.agg #[s, k], .int .i64 c])) ((w'.setCell ⟨r, 0, none⟩ s).setCell ⟨r, 1, none⟩ k) :=
  ⟨s, k, rfl, hx.stored hr, ((h.mono (lo' := w.heap.size) (by omega)).off (off_two r w' s k) (fun x hx => .inl ⟨by have := h.la; omega, fun hh => by have := (h.links.lt _ hh).1; omega⟩)).own⟩
end Go.Proofs.YtfajmlkiidnhlaaGreat

/- Contract: l19Round. -/
namespace Go.Proofs.YtfajmlkiidnhlaaGreat
set_option linter.unusedVariables false
set_option linter.unusedSimpArgs false
open Go.RowKit
attribute [local go_sem] cell_onto
end Go.Proofs.YtfajmlkiidnhlaaGreat
