/- Contracts: the reference's PossibleDays, SolvedNetwork; the program's SolvedNetwork. -/
import Derived.Test.YtfajmlkiidnhlaaGreatQ5Pk
import Derived.Test.YtfajmlkiidnhlaaGreatQ5Pm
import Derived.Test.YtfajmlkiidnhlaaGreatQ3V
import Derived.Deep.RegionHeld3
namespace Go.Proofs.YtfajmlkiidnhlaaGreat
set_option linter.unusedVariables false
set_option linter.unusedSimpArgs false
open Go.RowKit
attribute [local go_sem] cell_onto
theorem made0 (T : TypeId) {w : World} {b : Nat} (h : b ≤ w.heap.size) : (w.alloc (.cells #[] T)).ownsRow b T 4 (.slice (some ⟨w.heap.size, 0, none⟩) 0 0) 0 [] :=
  ownsRow_mono (World.ownsRow_made w #[] 0 (Nat.le_refl _) (Nat.zero_le _) rfl) h
theorem OwnNet.wide_ {w w' : World} {lo : Nat} {v : Value} {n : Net} (h : OwnNet w lo w.heap.size v n) (hx : Ext w w') : OwnNet w' lo w'.heap.size v n := by
  obtain ⟨s, k, a, b, gk, e, h1, h2, h3, h4, h5⟩ := h
  have hz := hx.size
  exact ⟨s, k, a, b, gk, e, h1, by omega, h3.ext hx, h4.ext hx, fun hn => by have := h5 hn; omega⟩
theorem svOwn {T : TypeId} {n : Net} {w1 w5 : World} {a b : Nat} {v4 v5 : Value} (ha : w1.heap.size ≤ a) (hs : OwnSets w5 a b v4 (posSS n)) (hb : b ≤ w5.heap.size) (hk : w5.ownsRow w1.heap.size T 4 v5 n.links.length (cellsOf (n.links.length * 4) (linkCell n.links)))
    (hg : ∀ g, v5.ownBlock = some g → g < a ∨ b ≤ g) : Hid (OwnNet w5 w1.heap.size w5.heap.size (.agg #[v4, v5]) (svN n)) :=
  Lib.hid (ownNet_of (n := svN n) hs hk ha hb (fun g hg' hh => by have := hg g hg'; omega))
theorem sv_app {n : Net} {w w1 w4 W : World} {s : Value} {Ar A4 : Option Addr} {c1 c4 a4 d : Nat} (H : Hid (NetIn w s (.slice Ar n.links.length c1) n)) (hW : Ext w W) (h14 : Ext w1 w4) (h4W : Ext w4 W) (h20 : n.links.length ≤ 20) (ha : w1.heap.size ≤ a4) (Hos : Hid (OwnSets w4 a4 w4.heap.size (.slice A4 (posSS n).length c4) (posSS n)))
    (hd : W.ownsRow w1.heap.size 98 4 (.slice (some ⟨d, 0, none⟩) 0 0) 0 []) (hd2 : d = w1.heap.size ∧ w1.heap.size < a4 ∨ w4.heap.size ≤ d)
    {ops : Array Oper} {o : Oper} {a : Act} {K : Act → World → Prop} {Q : Exit → Act → World → Prop} {E : Prop} (hgd : o.guard = none) (ho : o.op = .call { callee := .builtin .append, args := #[.tmp 13, .tmp 15], argTypes := #[25, 25] })
    (hs : a.eval (.tmp 13) = .slice (some ⟨d, 0, none⟩) 0 0) (hx : a.eval (.tmp 15) = .slice Ar n.links.length c1)
    (h : ∀ A5 c5 w5, Ext w1 w5 → Hid (OwnNet w5 w1.heap.size w5.heap.size (.agg #[.slice A4 (posSS n).length c4, .slice A5 n.links.length c5]) (svN n)) → K (a.put o.dst (.slice A5 n.links.length c5)) w5) :
    if Region.wanted o (yielded ops a.tmps) = true then Oper.wp Tryz.prog o a W K Q else E := by
  have h1 := h14.size
  have h2 := h4W.size
  refine step_append_row hgd (.tmp 13) (.tmp 15) 25 ho w1.heap.size 98 4 32 Tryz.underlying25 (by kernel_rfl) (by omega) _ 0 n.links.length [] hs (.inl hd) (.inl hd) 0 w.heap.size _ (linkCell n.links) hx (H.out.2.ext hW (Nat.le_refl _)) (fun i _ => linkCell_one n.links i) (by unfold maxLen; omega) (by omega) (by omega) ?_
  intro v5 w5 hown5 hput5
  have hx5 : Ext w1 w5 := hput5.ext (h14.trans h4W) (Nat.le_refl _)
  have hz5 := hput5.size
  obtain ⟨A5, c5, rfl⟩ := ownsRow_len hown5
  simp only [Nat.zero_add, List.nil_append] at hown5 hput5 ⊢
  have hdd : ∀ k, Value.ownBlock (.slice (some ⟨d, 0, none⟩) 0 0) = some k → k = d := fun k hk => by
    simp [Value.ownBlock] at hk
    omega
  refine h A5 c5 w5 hx5 (svOwn ha ((Hos.out.ext h4W).off hput5.1 (fun k q1 q2 hh => ?_)) (by omega) hown5 (fun g hg => ?_))
  · have := hdd k hh.2.2
    omega
  · rcases hput5.2 g hg with e | e
    · have := hdd g e.2.2
      omega
    · right; omega
set_option maxRecDepth 100000 in
set_option maxHeartbeats 8000000 in
theorem spec_PossibleDays (s k : Value) (n : Net) (i : Int) (w : World) (h : NetIn w s k n) : Calls Tryz.prog 23 #[.agg #[s, k], .int .i64 i] w (NewSps2 (psL n i) (psE n i) w) := by
  obtain ⟨As, cs, rfl, hns, hcs⟩ := h.1.len
  have H := Lib.hid h
  clear h
  go_enter Tryz.func23, Tryz.ntmps23
  have bb := Boxed.new w [.slice As n.sets.length cs, k] 27; have bb0 := bb.at0; have bb1 := bb.at1; have bbg := bb.1; have Hbb := Lib.hid bb; clear bb
  have hx0 : Ext w (w.alloc (.cells #[.slice As n.sets.length cs, k] 27)) := (by repeat (first | exact Ext.refl _ | assumption | refine Ext.alloc ?_ _ | refine Ext.drew ?_ | refine Ext.drewN ?_ _ | refine Ext.setCell ?_ (by first | (simp; done) | (simp; omega) | omega) _ | refine Ext.trans ?_ (by assumption)))
  obtain ⟨bv, hbv⟩ : ∃ b, b = B (0 ≤ i ∧ i ≤ (n.sets.length : Int) - 1) := ⟨_, rfl⟩
  have Ha := Lib.hid hbv.symm
  have He : Hid (codeE n bv = posE n i) := Lib.hid (by rw [hbv]; unfold posE; congr 1; exact B_congr vars1.symm)
  clear hbv
  go_wp2_with fail
  (refine wp_region_onto prog_mixed (by kernel_rfl) ?_; (repeat (go_big_quiet_step ((first | (go_at_call 73; with_reducible exact onto_callS (spec_l01In_b Ha.out _)) | (go_at_call 41; with_reducible exact onto_callX (spec_l20Code _ k n bv _ (H.out.up (hx0.trans (onto_ext _ _))))))))); refine onto_end ?_; intro w1 hx1)
  rw [He.out]
  have hx : Ext w w1 := (by repeat (first | exact Ext.refl _ | assumption | refine Ext.alloc ?_ _ | refine Ext.drew ?_ | refine Ext.drewN ?_ _ | refine Ext.setCell ?_ (by first | (simp; done) | (simp; omega) | omega) _ | refine Ext.trans ?_ (by assumption)))
  have hbx := Hbb.out.ext (show Ext _ w1 from (by repeat (first | exact Ext.refl _ | assumption | refine Ext.alloc ?_ _ | refine Ext.drew ?_ | refine Ext.drewN ?_ _ | refine Ext.setCell ?_ (by first | (simp; done) | (simp; omega) | omega) _ | refine Ext.trans ?_ (by assumption))))
  clear bb0 bb1 bbg Hbb He Ha
  have hb := hbx; have hb0 := hb.at0; have hb1 := hb.at1; have hbg := hb.1; have Hhb := Lib.hid hb; clear hb
  clear hx1 hbx
  by_cases hc : posE n i = 0
  · have Hc := Lib.hid hc
    have Hz := Lib.hid (pos_zero hc)
    obtain ⟨-, -, i1, i2⟩ := Hz.out
    rw [hc]
    clear hc
    have hiN : i < (n.sets.length : Int) := by omega
    have hil : i.toNat < n.sets.length := by omega
    go_wp2_with fail
    refine Calls.mono (spec_l20Possible _ _ n _ (H.out.up (by repeat (first | exact Ext.refl _ | assumption | refine Ext.alloc ?_ _ | refine Ext.drew ?_ | refine Ext.drewN ?_ _ | refine Ext.setCell ?_ (by first | (simp; done) | (simp; omega) | omega) _ | refine Ext.trans ?_ (by assumption)))) Hz.out.1 Hz.out.2.1) ?_
    rintro e w2 ⟨v2, rfl, hx2, hos⟩
    obtain ⟨A2, c2, rfl⟩ := hos.len
    have hpl := posSS_len n
    obtain ⟨g, off, u, gu, rfl, hg, hcell, hown, hgu⟩ := hos.cell_ (i := i.toNat) (by omega)
    rw [posSS_at hil] at hown hgu
    obtain ⟨Au, cu, rfl⟩ := hown.len
    have Hown := Lib.hid hown
    have Hgu := Lib.hid hgu
    have hxx : Ext w w2 := (by repeat (first | exact Ext.refl _ | assumption | refine Ext.alloc ?_ _ | refine Ext.drew ?_ | refine Ext.drewN ?_ _ | refine Ext.setCell ?_ (by first | (simp; done) | (simp; omega) | omega) _ | refine Ext.trans ?_ (by assumption)))
    clear hos hown hgu hb0 hb1 hbg Hhb
    rw [hpl]
    by_cases h3 : (posL n i.toNat).length ≤ 300
    · have Hn := Lib.hid (ps_ok Hc.out h3)
      go_wp2_with fail
      refine Calls.mono (spec_l02Result_yes _ _ _ _ h3) ?_
      rintro e w4 ⟨rfl, rfl⟩
      go_wp2_with fail
      go_ret2
      rw [Hn.out.1, Hn.out.2]
      exact ⟨_, gu, rfl, hxx, fun h0 => by have := (Hgu.out h0).1; have := hx.size; omega, Hown.out⟩
    · have Hn := Lib.hid (ps_big Hc.out h3)
      have hml := Hown.out.1
      go_wp2_with fail
      refine Calls.mono (spec_l02Result_no _ _ _ _ (by unfold maxLen at hml; omega) h3) ?_
      rintro e w4 ⟨rfl, rfl⟩
      go_wp2_with fail
      go_ret2
      rw [Hn.out.1, Hn.out.2]
      exact NewSps2.nil 3 (by repeat (first | exact Ext.refl _ | assumption | refine Ext.alloc ?_ _ | refine Ext.drew ?_ | refine Ext.drewN ?_ _ | refine Ext.setCell ?_ (by first | (simp; done) | (simp; omega) | omega) _ | refine Ext.trans ?_ (by assumption)))
  · have Hn := Lib.hid (ps_no hc)
    have hne : (posE n i != 0) = true := bne_iff_ne.2 hc
    have hde : decide (posE n i = 0) = false := decide_eq_false hc
    generalize posE n i = c at *
    go_wp2_with fail
    go_ret2
    rw [Hn.out.1, Hn.out.2]
    exact NewSps2.nil c hx
theorem possible_at (s k : Value) (n : Net) (w : World) (h : NetIn w s k n) (hok : NetOk n) (hfew : prodN n.sets ≤ 4096) : Calls Tryz.prog 75 #[.agg #[s, k]] w (fun e w' => ∃ A c a, e = .returned (.slice A (posSS n).length c) ∧ Ext w w' ∧ a = w.heap.size ∧ OwnSets w' a w'.heap.size (.slice A (posSS n).length c) (posSS n)) :=
  (spec_l20Possible s k n w h hok hfew).mono (fun e w' hh => by
    obtain ⟨v, rfl, hx, hos⟩ := hh
    obtain ⟨A, c, rfl⟩ := hos.len
    exact ⟨A, c, _, rfl, hx, rfl, hos⟩)
set_option maxRecDepth 100000 in
set_option maxHeartbeats 8000000 in
theorem spec_SolvedNetwork (s k : Value) (n : Net) (w : World) (h : NetIn w s k n) : Calls Tryz.prog 26 #[.agg #[s, k]] w (NewNet2 (svV n) (svE n) w) := by
  obtain ⟨As, c0, rfl, hns0, hcs0⟩ := h.1.len
  obtain ⟨Ar, c1, rfl, hnk0, hck0⟩ := h.2.len
  have H := Lib.hid h
  clear h
  go_enter Tryz.func26, Tryz.ntmps26
  go_wp2_with fail
  refine Calls.mono (spec_l20Code _ _ n true _ (H.out.up (by repeat (first | exact Ext.refl _ | assumption | refine Ext.alloc ?_ _ | refine Ext.drew ?_ | refine Ext.drewN ?_ _ | refine Ext.setCell ?_ (by first | (simp; done) | (simp; omega) | omega) _ | refine Ext.trans ?_ (by assumption))))) ?_
  rintro e w1 ⟨rfl, hx1⟩
  have hx : Ext w w1 := (by repeat (first | exact Ext.refl _ | assumption | refine Ext.alloc ?_ _ | refine Ext.drew ?_ | refine Ext.drewN ?_ _ | refine Ext.setCell ?_ (by first | (simp; done) | (simp; omega) | omega) _ | refine Ext.trans ?_ (by assumption)))
  have Hnb := Lib.hid (((Boxed.new w [.slice As n.sets.length c0, .slice Ar n.links.length c1] 27).ext ((Ext.refl _).alloc (.cells #[.slice none 0 0, .slice none 0 0] 27))).ext hx1)
  have Hrb : Hid (Boxed w1 (w.heap.size + 1) [.slice none 0 0, .slice none 0 0]) := Lib.hid
    (by
      have := (Boxed.new (w.alloc (.cells #[.slice As n.sets.length c0, .slice Ar n.links.length c1] 27)) [.slice none 0 0, .slice none 0 0] 27).ext hx1
      rwa [World.size_alloc] at this)
  have hr1 := Hrb.out.1
  clear hx1
  by_cases hc : codeE n true = 0
  · have Hc := Lib.hid hc
    have Hok := Lib.hid (codeE_zero hc).1
    have Hfew := Lib.hid (few_of (codeE_zero hc).2.2)
    have Hn := Lib.hid (sv_ok hc)
    have h20 := (codeE_zero hc).1.2.1
    rw [hc]
    clear hc
    have hz1 := hx.size
    have hb := Hnb.out; have hb0 := hb.at0; have hb1 := hb.at1; have hbg := hb.1; have Hhb := Lib.hid hb; clear hb
    by_cases hl : Lim (svN n)
    · have Hl := Lib.hid hl
      clear hl
      go_wp2_with fail
      go_region_law (first
          | (go_simp; go_at_call 75; refine Calls.mono (possible_at _ _ n _ (H.out.up (by repeat (first | exact Ext.refl _ | assumption | refine Ext.alloc ?_ _ | refine Ext.drew ?_ | refine Ext.drewN ?_ _ | refine Ext.setCell ?_ (by first | (simp; done) | (simp; omega) | omega) _ | refine Ext.trans ?_ (by assumption)))) Hok.out Hfew.out) ?_; rintro e w4 ⟨A4, c4, a4, rfl, hx4, ha4, hos⟩; have hx14 : Ext w1 w4 := (by repeat (first | exact Ext.refl _ | assumption | refine Ext.alloc ?_ _ | refine Ext.drew ?_ | refine Ext.drewN ?_ _ | refine Ext.setCell ?_ (by first | (simp; done) | (simp; omega) | omega) _ | refine Ext.trans ?_ (by assumption))); have Hos := Lib.hid hos; (try simp at ha4); have Ha4 := Lib.hid (show w1.heap.size ≤ a4 by omega); have cb := Hnb.out.ext hx14; have cb0 := cb.at0; have cb1 := cb.at1; have cbg := cb.1; have Hcb := Lib.hid cb; clear cb; clear hos)
          | (go_simp; go_at_call 76; refine Calls.mono (spec_l19Result_yes _ _ (svN n) _ HN.out (svN_d Hok.out) Hl.out) ?_; rintro e w6 ⟨rfl, hx6⟩; have hx16 : Ext w1 w6 := (by repeat (first | exact Ext.refl _ | assumption | refine Ext.alloc ?_ _ | refine Ext.drew ?_ | refine Ext.drewN ?_ _ | refine Ext.setCell ?_ (by first | (simp; done) | (simp; omega) | omega) _ | refine Ext.trans ?_ (by assumption))); have rb := Hrb.out.ext hx16; have rb0 := rb.at0; have rb1 := rb.at1; have rbg := rb.1; have Hrb := Lib.hid rb; clear rb; have rf0 := Hrb.out.fz 0 (by simp); have rf1 := Hrb.out.fz 1 (by simp))
          | (refine sv_app H (by repeat (first | exact Ext.refl _ | assumption | refine Ext.alloc ?_ _ | refine Ext.drew ?_ | refine Ext.drewN ?_ _ | refine Ext.setCell ?_ (by first | (simp; done) | (simp; omega) | omega) _ | refine Ext.trans ?_ (by assumption))) hx14 (by repeat (first | exact Ext.refl _ | assumption | refine Ext.alloc ?_ _ | refine Ext.drew ?_ | refine Ext.drewN ?_ _ | refine Ext.setCell ?_ (by first | (simp; done) | (simp; omega) | omega) _ | refine Ext.trans ?_ (by assumption))) h20 Ha4.out Hos (made0 98 hx14.size) (.inr (Nat.le_refl _)) rfl rfl rfl rfl ?_; intro A5 c5 w5 hx15 Ho5; have HN := Lib.hid Ho5.out.net.netIn)
          | (refine sv_app H (by repeat (first | exact Ext.refl _ | assumption | refine Ext.alloc ?_ _ | refine Ext.drew ?_ | refine Ext.drewN ?_ _ | refine Ext.setCell ?_ (by first | (simp; done) | (simp; omega) | omega) _ | refine Ext.trans ?_ (by assumption))) hx14 (by repeat (first | exact Ext.refl _ | assumption | refine Ext.alloc ?_ _ | refine Ext.drew ?_ | refine Ext.drewN ?_ _ | refine Ext.setCell ?_ (by first | (simp; done) | (simp; omega) | omega) _ | refine Ext.trans ?_ (by assumption))) h20 Ha4.out Hos (row_ext (made0 98 (Nat.le_refl w1.heap.size)) (((Ext.refl _).drew).trans hx4)) (.inl ⟨rfl, by omega⟩) rfl rfl rfl rfl ?_; intro A5 c5 w5 hx15 Ho5; have HN := Lib.hid Ho5.out.net.netIn))
      all_goals
       go_wp2_with fail
       refine bodyPost_ret (v := .tuple #[.agg #[.slice A4 (posSS n).length c4, .slice A5 n.links.length c5], .int .i64 0]) (by simp [results, Tryz.results26, go_sem, *]) rfl ?_
       rw [Hn.out.1, Hn.out.2, (lim_yes Hl.out).1, (lim_yes Hl.out).2]
       exact NewNet2.put hx (by omega) hr1 hx16 (Ho5.out.wide_ hx6)
    · have Hl := Lib.hid hl
      clear hl
      go_wp2_with fail
      go_region_law (first
          | (go_simp; go_at_call 75; refine Calls.mono (possible_at _ _ n _ (H.out.up (by repeat (first | exact Ext.refl _ | assumption | refine Ext.alloc ?_ _ | refine Ext.drew ?_ | refine Ext.drewN ?_ _ | refine Ext.setCell ?_ (by first | (simp; done) | (simp; omega) | omega) _ | refine Ext.trans ?_ (by assumption)))) Hok.out Hfew.out) ?_; rintro e w4 ⟨A4, c4, a4, rfl, hx4, ha4, hos⟩; have hx14 : Ext w1 w4 := (by repeat (first | exact Ext.refl _ | assumption | refine Ext.alloc ?_ _ | refine Ext.drew ?_ | refine Ext.drewN ?_ _ | refine Ext.setCell ?_ (by first | (simp; done) | (simp; omega) | omega) _ | refine Ext.trans ?_ (by assumption))); have Hos := Lib.hid hos; (try simp at ha4); have Ha4 := Lib.hid (show w1.heap.size ≤ a4 by omega); have cb := Hnb.out.ext hx14; have cb0 := cb.at0; have cb1 := cb.at1; have cbg := cb.1; have Hcb := Lib.hid cb; clear cb; clear hos)
          | (go_simp; go_at_call 76; refine Calls.mono (spec_l19Result_no _ _ (svN n) _ HN.out (svN_d Hok.out) Hl.out) ?_; rintro e w6 ⟨rfl, hx6⟩; have hx16 : Ext w1 w6 := (by repeat (first | exact Ext.refl _ | assumption | refine Ext.alloc ?_ _ | refine Ext.drew ?_ | refine Ext.drewN ?_ _ | refine Ext.setCell ?_ (by first | (simp; done) | (simp; omega) | omega) _ | refine Ext.trans ?_ (by assumption))); have rb := Hrb.out.ext hx16; have rb0 := rb.at0; have rb1 := rb.at1; have rbg := rb.1; have Hrb := Lib.hid rb; clear rb; have rf0 := Hrb.out.fz 0 (by simp); have rf1 := Hrb.out.fz 1 (by simp))
          | (refine sv_app H (by repeat (first | exact Ext.refl _ | assumption | refine Ext.alloc ?_ _ | refine Ext.drew ?_ | refine Ext.drewN ?_ _ | refine Ext.setCell ?_ (by first | (simp; done) | (simp; omega) | omega) _ | refine Ext.trans ?_ (by assumption))) hx14 (by repeat (first | exact Ext.refl _ | assumption | refine Ext.alloc ?_ _ | refine Ext.drew ?_ | refine Ext.drewN ?_ _ | refine Ext.setCell ?_ (by first | (simp; done) | (simp; omega) | omega) _ | refine Ext.trans ?_ (by assumption))) h20 Ha4.out Hos (made0 98 hx14.size) (.inr (Nat.le_refl _)) rfl rfl rfl rfl ?_; intro A5 c5 w5 hx15 Ho5; have HN := Lib.hid Ho5.out.net.netIn)
          | (refine sv_app H (by repeat (first | exact Ext.refl _ | assumption | refine Ext.alloc ?_ _ | refine Ext.drew ?_ | refine Ext.drewN ?_ _ | refine Ext.setCell ?_ (by first | (simp; done) | (simp; omega) | omega) _ | refine Ext.trans ?_ (by assumption))) hx14 (by repeat (first | exact Ext.refl _ | assumption | refine Ext.alloc ?_ _ | refine Ext.drew ?_ | refine Ext.drewN ?_ _ | refine Ext.setCell ?_ (by first | (simp; done) | (simp; omega) | omega) _ | refine Ext.trans ?_ (by assumption))) h20 Ha4.out Hos (row_ext (made0 98 (Nat.le_refl w1.heap.size)) (((Ext.refl _).drew).trans hx4)) (.inl ⟨rfl, by omega⟩) rfl rfl rfl rfl ?_; intro A5 c5 w5 hx15 Ho5; have HN := Lib.hid Ho5.out.net.netIn))
      all_goals
       go_wp2_with fail
       refine bodyPost_ret (v := .tuple #[.agg #[.slice none 0 0, .slice none 0 0], .int .i64 3]) (by simp [results, Tryz.results26, go_sem, *]) rfl ?_
       rw [Hn.out.2, (lim_no Hl.out).1]
       exact Lib.nil2 3 (by rw [Hn.out.1, (lim_no Hl.out).2]) (hx.trans hx16) (by omega)
  · have Hn := Lib.hid (sv_no hc)
    have hne : (codeE n true != 0) = true := bne_iff_ne.2 hc
    have hde : decide (codeE n true = 0) = false := decide_eq_false hc
    generalize codeE n true = c at *
    have rb := Hrb.out; have rb0 := rb.at0; have rb1 := rb.at1; have rbg := rb.1; have Hrb := Lib.hid rb; clear rb
    have rf0 := Hrb.out.fz 0 (by simp)
    have rf1 := Hrb.out.fz 1 (by simp)
    go_wp2_with fail
    refine bodyPost_ret (v := .tuple #[.agg #[.slice none 0 0, .slice none 0 0], .int .i64 c]) (by simp [results, Tryz.results26, go_sem, *]) rfl ?_
    rw [Hn.out.2]
    exact Lib.nil2 c Hn.out.1 hx (by omega)
end Go.Proofs.YtfajmlkiidnhlaaGreat
