/- Contracts: the reference's l18Upper. -/
import Derived.Test.YtfajmlkiidnhlaaQ3P
import Derived.Test.YtfajmlkiidnhlaaQ3Nr
import Derived.StillTailTactics
namespace Go.Proofs.Ytfajmlkiidnhlaa
set_option linter.unusedVariables false
set_option linter.unusedSimpArgs false
open Go.RowKit
attribute [local go_sem] cell_onto

/-- what gives the greatest differences: a list in new memory and whether there are any -/
def UpPost (ls : List Lk) (x : List Int) (w : World) (e : Ending) (w' : World) : Prop :=
  ∃ v, e = .returned (.tuple #[v, .bool (B (UpOk ls x))]) ∧ Ext w w' ∧ (UpOk ls x → Ints w' 0 w'.heap.size v (upV ls x))

theorem Own.setInt {w : World} {g off N c : Nat} {x : List Int} (h : Own w g 1 (.slice (some ⟨g, off, none⟩) N c) N (intCell x)) {v : Nat} (hv : v < N) (hx : x.length = N) (a : Int) :
    Own (w.setCell ⟨g, off + v, none⟩ (.int .i64 a)) g 1 (.slice (some ⟨g, off, none⟩) N c) N (intCell (x.set v a)) := by
  refine (h.set v (.int .i64 a) (by omega)).congr (fun i hi => ?_)
  unfold intCell
  rw [inAt_set]
  by_cases e : i = v
  · rw [if_pos e, if_pos ⟨e, by omega⟩]
  · rw [if_neg e, if_neg (fun h => e h.1)]

theorem Own.cells {w : World} {g off N c : Nat} {f : Nat → Value} (h : Own w g 1 (.slice (some ⟨g, off, none⟩) N c) N f) (hn : 0 < N) :
    g < w.heap.size ∧ ∀ i, i < N → w.cell? ⟨g, off + i, none⟩ = some (f i) ∧ w.frozen? ⟨g, off + i, none⟩ = false := by
  obtain ⟨o2, e0, hgw, hc⟩ := h.at_ hn
  simp only [Option.some.injEq, Addr.mk.injEq, true_and, and_true] at e0
  subst e0
  exact ⟨hgw, fun i hi => hc i (by omega)⟩

set_option maxRecDepth 100000 in
set_option maxHeartbeats 4000000 in
theorem spec_l18Upper (s k : Value) (n : Net) (a : Int) (w : World) (h : NetIn w s k n) (hok : NetOk n) (ha : 0 ≤ a ∧ a < n.sets.length) :
    Calls Try.prog 99 #[.agg #[s, k], .int .i64 a] w (UpPost n.links (upStart n.sets.length a.toNat) w) := by
  obtain ⟨As, cs, rfl, hns, hcs⟩ := h.1.len
  obtain ⟨Ak, ck, rfl, hnk, hck⟩ := h.2.len
  have H := Lib.hid h
  have Hok := Lib.hid hok
  have h8 := hok.1
  have h20 := hok.2.1
  obtain ⟨ha0, ha1⟩ := ha
  clear h hok
  go_enter Try.func99, Try.ntmps99
  have hb := Boxed.new w [.slice As n.sets.length cs, .slice Ak n.links.length ck] 27; have hb0 := hb.at0; have hb1 := hb.at1; have hbg := hb.1; have Hhb := Lib.hid hb; clear hb
  go_wp2_with fail
  go_loopg [6, 7] n.sets.length (fun q u i wr => ∃ j : Nat, j + q = n.sets.length ∧ i = .int .i64 j ∧ Ext w wr ∧ Boxed wr w.heap.size [.slice As n.sets.length cs, .slice Ak n.links.length ck] ∧
    wr.ownsRow (w.heap.size + 1) 2 1 u (List.replicate j (730499 : Int)).length ((List.replicate j (730499 : Int)).map (Value.int .i64)))
  case atStart =>
    refine ⟨0, by omega, rfl, (by repeat (first | exact Ext.refl _ | assumption | refine Ext.alloc ?_ _ | refine Ext.drew ?_ | refine Ext.drewN ?_ _ | refine Ext.setCell ?_ (by first | (simp; done) | (simp; omega) | omega) _ | refine Ext.trans ?_ (by assumption))), Hhb.out.ext (by repeat (first | exact Ext.refl _ | assumption | refine Ext.alloc ?_ _ | refine Ext.drew ?_ | refine Ext.drewN ?_ _ | refine Ext.setCell ?_ (by first | (simp; done) | (simp; omega) | omega) _ | refine Ext.trans ?_ (by assumption))), ?_⟩
    have := World.ownsRow_made (base := w.heap.size + 1) (e := 2) (size := 1) (w.alloc (.cells #[.slice As n.sets.length cs, .slice Ak n.links.length ck] 27)) #[] 0 (by simp) (Nat.zero_le _) rfl
    simpa using this
  case round =>
    obtain ⟨j, hj, rfl, hxr, hbb, hown⟩ := hrel
    have hb := hbb; have hb0 := hb.at0; have hb1 := hb.at1; have hbg := hb.1; have Hhb := Lib.hid hb; clear hb
    have Hown := Lib.hid hown
    clear hown hbb
    by_cases hlt : j < n.sets.length
    · go_wp2_with (at_builtin; refine wpList_append_box _ rfl _ _ 28 rfl (w.heap.size + 1) 2 1 8 Try.underlying28 (by kernel_rfl) (by omega) _ _ _ rfl (row_ext Hown.out ((Ext.refl _).alloc _)) wr.heap.size [.int .i64 730499] rfl (Boxed.new wr [.int .i64 730499] 2) rfl (by simp [Value.oneCell']) (by simp; unfold maxLen; omega) (by simp; omega) (by simp; omega) ?_; intro v' w2 hown' hgr)
      have Hgr := Lib.hid (Ext.grown (hxr.alloc (.cells #[.int .i64 730499] 2)) hgr (row_ext Hown.out ((Ext.refl _).alloc _)) (Nat.le_succ _))
      have Hbx := Lib.hid (Boxed.grown (Boxed.ext Hhb.out ((Ext.refl _).alloc (.cells #[.int .i64 730499] 2))) hgr (row_ext Hown.out ((Ext.refl _).alloc _)) (Nat.lt_succ_self _))
      have Hown' := Lib.hid hown'
      clear hown' hgr
      go_wp2_with fail
      go_roundg (n.sets.length - (j + 1))
      case measure => omega
      case rel => exact ⟨j + 1, by omega, by go_num, Hgr.out, Hbx.out, by rw [List.replicate_succ', List.length_append, List.map_append]; exact Hown'.out⟩
    · obtain rfl : j = n.sets.length := by omega
      obtain ⟨g, hg, ho⟩ := Own.of_row (f := intCell (List.replicate n.sets.length (730499 : Int))) Hown.out (intCells _)
      rw [List.length_replicate] at ho
      obtain ⟨Au, cu, rfl⟩ := ho.len
      obtain ⟨off, rfl, hgw, hc⟩ := ho.at_ (by omega)
      have ca := (hc a.toNat (by omega)).1
      have cf := (hc a.toNat (by omega)).2
      go_wp2_with fail
      have Ho := Lib.hid ((Own.setInt (x := List.replicate n.sets.length (730499 : Int)) ho (v := a.toNat) (by omega) (by simp) 0))
      have hxs : Ext w (wr.setCell ⟨g, off + a.toNat, none⟩ (.int .i64 0)) := hxr.setCell (by have := hg (by simp; omega); show _ ≤ g; omega) _
      have hgb : w.heap.size < g := by have := hg (by simp; omega); omega
      have Hbs := Lib.hid (Hhb.out.setOther (p := ⟨g, off + a.toNat, none⟩) (by show w.heap.size ≠ g; omega) (.int .i64 0))
      clear hc ca cf ho hg hgw Hown hj hlt
      go_loopg [8] (n.sets.length + 1) (fun q i wq => ∃ r : Nat, r + q = n.sets.length + 1 ∧ i = .int .i64 r ∧ Ext w wq ∧ Boxed wq w.heap.size [.slice As n.sets.length cs, .slice Ak n.links.length ck] ∧
        Own wq g 1 (.slice (some ⟨g, off, none⟩) n.sets.length cu) n.sets.length (intCell (upX n.links (upStart n.sets.length a.toNat) r)) ∧
        UpNe n.links (upStart n.sets.length a.toNat) r)
      case atStart => exact ⟨0, by omega, rfl, hxs, Hbs.out, Ho.out, UpNe.zero _ _⟩
      clear hxs Ho Hbs hxr
      case round =>
        obtain ⟨r, hr, rfl, hxr, hbb, hown, hne⟩ := hrel
        have Hr := Lib.hid hr
        clear hr
        have Hne := Lib.hid hne
        clear hne
        have hb := hbb; have hb0 := hb.at0; have hb1 := hb.at1; have hbg := hb.1; have Hhb := Lib.hid hb; clear hb
        clear hbb
        have Hown := Lib.hid hown
        clear hown
        by_cases hlt : r ≤ n.sets.length
        · go_wp2_with fail
          go_loopg [9, 10] n.links.length (fun q c i wq => ∃ (j : Nat) (b : Bool), j + q = n.links.length ∧ c = .bool b ∧ i = .int .i64 j ∧ Ext w wq ∧ Boxed wq w.heap.size [.slice As n.sets.length cs, .slice Ak n.links.length ck] ∧
            Own wq g 1 (.slice (some ⟨g, off, none⟩) n.sets.length cu) n.sets.length (intCell (upTo n.links (upX n.links (upStart n.sets.length a.toNat) r) j)) ∧
            (b = true ↔ upTo n.links (upX n.links (upStart n.sets.length a.toNat) r) j ≠ upX n.links (upStart n.sets.length a.toNat) r))
          case atStart => exact ⟨0, false, by omega, rfl, rfl, (by repeat (first | exact Ext.refl _ | assumption | refine Ext.alloc ?_ _ | refine Ext.drew ?_ | refine Ext.drewN ?_ _ | refine Ext.setCell ?_ (by first | (simp; done) | (simp; omega) | omega) _ | refine Ext.trans ?_ (by assumption))), Hhb.out, Hown.out, ⟨(fun h => by cases h), (fun h => absurd rfl h)⟩⟩
          clear hb0 hb1 hbg Hhb Hown hxr
          case round =>
            obtain ⟨j, b, hj, rfl, rfl, hxr, hbb, hown, hbx⟩ := hrel
            have Hj := Lib.hid hj
            have Hbx := Lib.hid hbx
            clear hj hbx
            have hb := hbb; have hb0 := hb.at0; have hb1 := hb.at1; have hbg := hb.1; have Hhb := Lib.hid hb; clear hb
            clear hbb
            have Hown := Lib.hid hown
            clear hown
            by_cases hjl : j < n.links.length
            · obtain ⟨bl, offl, rfl, _, hbl, h1, h2, h3, h4⟩ := (H.out.2.ext hxr (Nat.le_refl _)).at_ hjl
              have hlk := Hok.out.2.2.2 j hjl
              have Hlk := Lib.hid hlk
              obtain ⟨⟨l1, l2⟩, ⟨l3, l4⟩, _, ⟨l5, l6⟩, ⟨l7, l8⟩, _⟩ := hlk
              have hlen : (upTo n.links (upX n.links (upStart n.sets.length a.toNat) r) j).length = n.sets.length := by rw [upTo_len, upX_len, upStart_len]
              have hbnd : ∀ i, i < n.sets.length → -500000000 ≤ inAt (upTo n.links (upX n.links (upStart n.sets.length a.toNat) r) j) i ∧ inAt (upTo n.links (upX n.links (upStart n.sets.length a.toNat) r) j) i ≤ 730499 := upTo_bnd Hok.out.2.2.2 h8 h20 hlt (by omega)
              have Hup := Lib.hid (up2_ne Hlk.out (by rw [upX_len, upStart_len]) hlen (fun i => upTo_le _ _ _ _) Hbx.out)
              generalize hy : upTo n.links (upX n.links (upStart n.sets.length a.toNat) r) j = y at Hown hlen hbnd Hup
              have Hy := Lib.hid hy
              have hba := hbnd (lkAt n.links j).af.toNat (by omega)
              have hbb' := hbnd (lkAt n.links j).be.toNat (by omega)
              obtain ⟨ba1, ba2⟩ := hba
              obtain ⟨bb1, bb2⟩ := hbb'
              have Hlen := Lib.hid hlen
              have Hbnd := Lib.hid hbnd
              clear hy hlen hbnd Hbx
              obtain ⟨hgw, hc⟩ := Hown.out.cells (by omega)
              have cA : wr.cell? ⟨g, off + (lkAt n.links j).af.toNat, none⟩ = some (.int .i64 (inAt y (lkAt n.links j).af.toNat)) := (hc _ (by omega)).1
              have cB : wr.cell? ⟨g, off + (lkAt n.links j).be.toNat, none⟩ = some (.int .i64 (inAt y (lkAt n.links j).be.toNat)) := (hc _ (by omega)).1
              have hafN : (lkAt n.links j).af < (n.sets.length : Int) := by omega
              have hbeN : (lkAt n.links j).be < (n.sets.length : Int) := by omega
              clear hc
              by_cases t1 : inAt y (lkAt n.links j).be.toNat + (lkAt n.links j).mo < inAt y (lkAt n.links j).af.toNat
              · have T1 : decide (inAt y (lkAt n.links j).be.toNat + (lkAt n.links j).mo < inAt y (lkAt n.links j).af.toNat) = true := decide_eq_true t1
                have Ht1 := Lib.hid t1
                clear t1
                go_wp2_with fail
                (refine wp_region_onto prog_mixed (by kernel_rfl) ?_; (repeat (go_big_quiet_step ((fail)))); refine onto_end ?_; intro w1 hx1)
                go_wp2_with fail
                have hxw : Ext wr w1 := (by repeat (first | exact Ext.refl _ | assumption | refine Ext.alloc ?_ _ | refine Ext.drew ?_ | refine Ext.drewN ?_ _ | refine Ext.setCell ?_ (by first | (simp; done) | (simp; omega) | omega) _ | refine Ext.trans ?_ (by assumption)))
                have hxr1 : Ext w w1 := hxr.trans hxw
                clear hb0 hb1 hbg cA cB hxr
                have hb := Hhb.out.ext hxw; have hb0 := hb.at0; have hb1 := hb.at1; have hbg := hb.1; have Hhb := Lib.hid hb; clear hb
                have lb := (Boxed.new wr [.int .i64 (lkAt n.links j).be, .int .i64 (lkAt n.links j).af, .int .i64 (lkAt n.links j).le, .int .i64 (lkAt n.links j).mo] 60).ext hx1; have lb0 := lb.at0; have lb1 := lb.at1; have lb2 := lb.at2; have lb3 := lb.at3; have lbg := lb.1; have Hlb := Lib.hid lb; clear lb
                have Hown1 := Lib.hid (Hown.out.ext hxw)
                obtain ⟨hgw1, hc⟩ := Hown1.out.cells (by omega)
                have cA : w1.cell? ⟨g, off + (lkAt n.links j).af.toNat, none⟩ = some (.int .i64 (inAt y (lkAt n.links j).af.toNat)) := (hc _ (by omega)).1
                have cB : w1.cell? ⟨g, off + (lkAt n.links j).be.toNat, none⟩ = some (.int .i64 (inAt y (lkAt n.links j).be.toNat)) := (hc _ (by omega)).1
                have fA : w1.frozen? ⟨g, off + (lkAt n.links j).af.toNat, none⟩ = false := (hc _ (by omega)).2
                have fB : w1.frozen? ⟨g, off + (lkAt n.links j).be.toNat, none⟩ = false := (hc _ (by omega)).2
                clear hc
                go_still_tail 12, (by kernel_rfl)
                go_wp2_with fail
                have e1 : up1 (lkAt n.links j) y = y.set (lkAt n.links j).af.toNat (inAt y (lkAt n.links j).be.toNat + (lkAt n.links j).mo) := relax_yes (by have := Ht1.out; omega)
                obtain ⟨y1, hy1⟩ : ∃ y1, up1 (lkAt n.links j) y = y1 := ⟨_, rfl⟩
                have Hy1 := Lib.hid hy1
                rw [hy1] at e1
                clear hy1
                have Hb1 := Lib.hid (upTo_bnd1 Hlk.out Hbnd.out)
                rw [Hy1.out] at Hb1
                have hb1a := Hb1.out (lkAt n.links j).af.toNat (by omega)
                have hb1b := Hb1.out (lkAt n.links j).be.toNat (by omega)
                obtain ⟨b11, b12⟩ := hb1a
                obtain ⟨b21, b22⟩ := hb1b
                have k1 : Ext w (w1.setCell ⟨g, off + (lkAt n.links j).af.toNat, none⟩ (.int .i64 (inAt y (lkAt n.links j).be.toNat + (lkAt n.links j).mo))).drew := (hxr1.setCell (by show _ ≤ g; omega) _).drew
                have k2 : Boxed (w1.setCell ⟨g, off + (lkAt n.links j).af.toNat, none⟩ (.int .i64 (inAt y (lkAt n.links j).be.toNat + (lkAt n.links j).mo))).drew w.heap.size [.slice As n.sets.length cs, .slice (some ⟨bl, offl, none⟩) n.links.length ck] := (Hhb.out.setOther (by show w.heap.size ≠ g; omega) _).ext ((Ext.refl _).drew)
                have k3 : Boxed (w1.setCell ⟨g, off + (lkAt n.links j).af.toNat, none⟩ (.int .i64 (inAt y (lkAt n.links j).be.toNat + (lkAt n.links j).mo))).drew wr.heap.size [.int .i64 (lkAt n.links j).be, .int .i64 (lkAt n.links j).af, .int .i64 (lkAt n.links j).le, .int .i64 (lkAt n.links j).mo] := (Hlb.out.setOther (by show wr.heap.size ≠ g; omega) _).ext ((Ext.refl _).drew)
                have k4 : Own (w1.setCell ⟨g, off + (lkAt n.links j).af.toNat, none⟩ (.int .i64 (inAt y (lkAt n.links j).be.toNat + (lkAt n.links j).mo))).drew g 1 (.slice (some ⟨g, off, none⟩) n.sets.length cu) n.sets.length (intCell y1) := by rw [e1]; exact (Own.setInt Hown1.out (by omega) Hlen.out _).ext ((Ext.refl _).drew)
                generalize (w1.setCell ⟨g, off + (lkAt n.links j).af.toNat, none⟩ (.int .i64 (inAt y (lkAt n.links j).be.toNat + (lkAt n.links j).mo))).drew = w2 at k1 k2 k3 k4 ⊢
                clear hb0 hb1 hbg cA cB fA fB lb0 lb1 lb2 lb3 lbg Hhb Hlb e1
                have hb := k2; have hb0 := hb.at0; have hb1 := hb.at1; have hbg := hb.1; have Hhb := Lib.hid hb; clear hb
                have lb := k3; have lb0 := lb.at0; have lb1 := lb.at1; have lb2 := lb.at2; have lb3 := lb.at3; have lbg := lb.1; have Hlb := Lib.hid lb; clear lb
                have Hown2 := Lib.hid k4
                clear k2 k3 k4
                obtain ⟨hgw2, hc⟩ := Hown2.out.cells (by omega)
                have cA : w2.cell? ⟨g, off + (lkAt n.links j).af.toNat, none⟩ = some (.int .i64 (inAt y1 (lkAt n.links j).af.toNat)) := (hc _ (by omega)).1
                have cB : w2.cell? ⟨g, off + (lkAt n.links j).be.toNat, none⟩ = some (.int .i64 (inAt y1 (lkAt n.links j).be.toNat)) := (hc _ (by omega)).1
                have fA : w2.frozen? ⟨g, off + (lkAt n.links j).af.toNat, none⟩ = false := (hc _ (by omega)).2
                have fB : w2.frozen? ⟨g, off + (lkAt n.links j).be.toNat, none⟩ = false := (hc _ (by omega)).2
                clear hc
                clear Hown
                by_cases t2 : inAt y1 (lkAt n.links j).af.toNat + -(lkAt n.links j).le < inAt y1 (lkAt n.links j).be.toNat
                · have T2 : decide (inAt y1 (lkAt n.links j).af.toNat - (lkAt n.links j).le < inAt y1 (lkAt n.links j).be.toNat) = true := decide_eq_true (by omega)
                  have Ht2 := Lib.hid t2
                  clear t2
                  go_wp2_with fail
                  (refine wp_region_onto prog_mixed (by kernel_rfl) ?_; (repeat (go_big_quiet_step ((fail)))); refine onto_end ?_; intro w3 hx3)
                  go_wp2_with fail
                  have hxw3 : Ext w2 w3 := (by repeat (first | exact Ext.refl _ | assumption | refine Ext.alloc ?_ _ | refine Ext.drew ?_ | refine Ext.drewN ?_ _ | refine Ext.setCell ?_ (by first | (simp; done) | (simp; omega) | omega) _ | refine Ext.trans ?_ (by assumption)))
                  have hxr3 : Ext w w3 := k1.trans hxw3
                  have Hb3 := Lib.hid (Hhb.out.ext hxw3)
                  have Hown3 := Lib.hid (Hown2.out.ext hxw3)
                  clear cA cB fA fB
                  have hb := Hb3.out; have hb0 := hb.at0; have hb1 := hb.at1; have hbg := hb.1; have Hhb := Lib.hid hb; clear hb
                  have lb := Hlb.out.ext hxw3; have lb0 := lb.at0; have lb1 := lb.at1; have lb2 := lb.at2; have lb3 := lb.at3; have lbg := lb.1; have Hlb := Lib.hid lb; clear lb
                  obtain ⟨hgw3, hc⟩ := Hown3.out.cells (by omega)
                  have cA : w3.cell? ⟨g, off + (lkAt n.links j).af.toNat, none⟩ = some (.int .i64 (inAt y1 (lkAt n.links j).af.toNat)) := (hc _ (by omega)).1
                  have cB : w3.cell? ⟨g, off + (lkAt n.links j).be.toNat, none⟩ = some (.int .i64 (inAt y1 (lkAt n.links j).be.toNat)) := (hc _ (by omega)).1
                  have fA : w3.frozen? ⟨g, off + (lkAt n.links j).af.toNat, none⟩ = false := (hc _ (by omega)).2
                  have fB : w3.frozen? ⟨g, off + (lkAt n.links j).be.toNat, none⟩ = false := (hc _ (by omega)).2
                  clear hc
                  go_still_tail 12, (by kernel_rfl)
                  go_wp2_with fail
                  go_roundg (n.links.length - (j + 1))
                  case measure => have := Hj.out; omega
                  case rel =>
                    have e3 : upTo n.links (upX n.links (upStart n.sets.length a.toNat) r) (j + 1) = up2 (lkAt n.links j) y := by show up2 _ (upTo _ _ _) = _; rw [Hy.out]
                    have e4 : up2 (lkAt n.links j) y = y1.set (lkAt n.links j).be.toNat (inAt y1 (lkAt n.links j).af.toNat - (lkAt n.links j).le) := by unfold up2; rw [Hy1.out, relax_yes (by have := Ht2.out; omega), Int.sub_eq_add_neg]
                    refine ⟨j + 1, true, by have := Hj.out; omega, rfl, by go_num, (hxr3.setCell (by show _ ≤ g; omega) _).drew, (Hb3.out.setOther (by show w.heap.size ≠ g; omega) _).ext ((Ext.refl _).drew), ?_, ?_⟩
                    rotate_left
                    · rw [e3]; exact ⟨fun _ => Hup.out.1 (.inr (.inr (by rw [Hy1.out]; have := Ht2.out; omega))), fun _ => rfl⟩
                    rw [e3, e4]
                    exact (Own.setInt Hown3.out (by omega) (by rw [← Hy1.out]; exact (relax_len _ _ _ _).trans Hlen.out) _).ext ((Ext.refl _).drew)
                · have T2 : decide (inAt y1 (lkAt n.links j).af.toNat - (lkAt n.links j).le < inAt y1 (lkAt n.links j).be.toNat) = false := decide_eq_false (by omega)
                  have Ht2 := Lib.hid t2
                  clear t2
                  go_wp2_with fail
                  (refine wp_region_onto prog_mixed (by kernel_rfl) ?_; (repeat (go_big_quiet_step ((fail)))); refine onto_end ?_; intro w3 hx3)
                  go_wp2_with fail
                  have hxw3 : Ext w2 w3 := (by repeat (first | exact Ext.refl _ | assumption | refine Ext.alloc ?_ _ | refine Ext.drew ?_ | refine Ext.drewN ?_ _ | refine Ext.setCell ?_ (by first | (simp; done) | (simp; omega) | omega) _ | refine Ext.trans ?_ (by assumption)))
                  have hxr3 : Ext w w3 := k1.trans hxw3
                  have Hb3 := Lib.hid (Hhb.out.ext hxw3)
                  have Hown3 := Lib.hid (Hown2.out.ext hxw3)
                  go_roundg (n.links.length - (j + 1))
                  case measure => have := Hj.out; omega
                  case rel =>
                    have e3 : upTo n.links (upX n.links (upStart n.sets.length a.toNat) r) (j + 1) = up2 (lkAt n.links j) y := by show up2 _ (upTo _ _ _) = _; rw [Hy.out]
                    have e4 : up2 (lkAt n.links j) y = y1 := by unfold up2; rw [Hy1.out, relax_no (by have := Ht2.out; omega)]
                    refine ⟨j + 1, true, by have := Hj.out; omega, rfl, by go_num, hxr3, Hb3.out, ?_, ?_⟩
                    rotate_left
                    · rw [e3]; exact ⟨fun _ => Hup.out.1 (.inr (.inl (by have := Ht1.out; omega))), fun _ => rfl⟩
                    rw [e3, e4]
                    exact Hown3.out
              · have T1 : decide (inAt y (lkAt n.links j).be.toNat + (lkAt n.links j).mo < inAt y (lkAt n.links j).af.toNat) = false := decide_eq_false t1
                have Ht1 := Lib.hid t1
                clear t1
                go_wp2_with fail
                (refine wp_region_onto prog_mixed (by kernel_rfl) ?_; (repeat (go_big_quiet_step ((fail)))); refine onto_end ?_; intro w1 hx1)
                go_wp2_with fail
                have hxw : Ext wr w1 := (by repeat (first | exact Ext.refl _ | assumption | refine Ext.alloc ?_ _ | refine Ext.drew ?_ | refine Ext.drewN ?_ _ | refine Ext.setCell ?_ (by first | (simp; done) | (simp; omega) | omega) _ | refine Ext.trans ?_ (by assumption)))
                have hxr1 : Ext w w1 := hxr.trans hxw
                clear hb0 hb1 hbg cA cB hxr
                have hb := Hhb.out.ext hxw; have hb0 := hb.at0; have hb1 := hb.at1; have hbg := hb.1; have Hhb := Lib.hid hb; clear hb
                have lb := (Boxed.new wr [.int .i64 (lkAt n.links j).be, .int .i64 (lkAt n.links j).af, .int .i64 (lkAt n.links j).le, .int .i64 (lkAt n.links j).mo] 60).ext hx1; have lb0 := lb.at0; have lb1 := lb.at1; have lb2 := lb.at2; have lb3 := lb.at3; have lbg := lb.1; have Hlb := Lib.hid lb; clear lb
                have Hown1 := Lib.hid (Hown.out.ext hxw)
                obtain ⟨y1, hy1⟩ : ∃ y1, up1 (lkAt n.links j) y = y1 := ⟨_, rfl⟩
                have e1 : y1 = y := hy1.symm.trans (relax_no (by have := Ht1.out; omega))
                have Hy1 := Lib.hid hy1
                clear hy1
                have Hb1 := Lib.hid (upTo_bnd1 Hlk.out Hbnd.out)
                rw [Hy1.out] at Hb1
                have hb1a := Hb1.out (lkAt n.links j).af.toNat (by omega)
                have hb1b := Hb1.out (lkAt n.links j).be.toNat (by omega)
                obtain ⟨b11, b12⟩ := hb1a
                obtain ⟨b21, b22⟩ := hb1b
                have Hown2 := Lib.hid (show Own w1 g 1 (.slice (some ⟨g, off, none⟩) n.sets.length cu) n.sets.length (intCell y1) from by rw [e1]; exact Hown1.out)
                clear e1
                obtain ⟨hgw1, hc⟩ := Hown2.out.cells (by omega)
                have cA : w1.cell? ⟨g, off + (lkAt n.links j).af.toNat, none⟩ = some (.int .i64 (inAt y1 (lkAt n.links j).af.toNat)) := (hc _ (by omega)).1
                have cB : w1.cell? ⟨g, off + (lkAt n.links j).be.toNat, none⟩ = some (.int .i64 (inAt y1 (lkAt n.links j).be.toNat)) := (hc _ (by omega)).1
                have fA : w1.frozen? ⟨g, off + (lkAt n.links j).af.toNat, none⟩ = false := (hc _ (by omega)).2
                have fB : w1.frozen? ⟨g, off + (lkAt n.links j).be.toNat, none⟩ = false := (hc _ (by omega)).2
                clear hc
                clear Hown
                by_cases t2 : inAt y1 (lkAt n.links j).af.toNat + -(lkAt n.links j).le < inAt y1 (lkAt n.links j).be.toNat
                · have T2 : decide (inAt y1 (lkAt n.links j).af.toNat - (lkAt n.links j).le < inAt y1 (lkAt n.links j).be.toNat) = true := decide_eq_true (by omega)
                  have Ht2 := Lib.hid t2
                  clear t2
                  go_wp2_with fail
                  (refine wp_region_onto prog_mixed (by kernel_rfl) ?_; (repeat (go_big_quiet_step ((fail)))); refine onto_end ?_; intro w3 hx3)
                  go_wp2_with fail
                  have hxw3 : Ext w1 w3 := (by repeat (first | exact Ext.refl _ | assumption | refine Ext.alloc ?_ _ | refine Ext.drew ?_ | refine Ext.drewN ?_ _ | refine Ext.setCell ?_ (by first | (simp; done) | (simp; omega) | omega) _ | refine Ext.trans ?_ (by assumption)))
                  have hxr3 : Ext w w3 := hxr1.trans hxw3
                  have Hb3 := Lib.hid (Hhb.out.ext hxw3)
                  have Hown3 := Lib.hid (Hown2.out.ext hxw3)
                  clear cA cB fA fB
                  have hb := Hb3.out; have hb0 := hb.at0; have hb1 := hb.at1; have hbg := hb.1; have Hhb := Lib.hid hb; clear hb
                  have lb := Hlb.out.ext hxw3; have lb0 := lb.at0; have lb1 := lb.at1; have lb2 := lb.at2; have lb3 := lb.at3; have lbg := lb.1; have Hlb := Lib.hid lb; clear lb
                  obtain ⟨hgw3, hc⟩ := Hown3.out.cells (by omega)
                  have cA : w3.cell? ⟨g, off + (lkAt n.links j).af.toNat, none⟩ = some (.int .i64 (inAt y1 (lkAt n.links j).af.toNat)) := (hc _ (by omega)).1
                  have cB : w3.cell? ⟨g, off + (lkAt n.links j).be.toNat, none⟩ = some (.int .i64 (inAt y1 (lkAt n.links j).be.toNat)) := (hc _ (by omega)).1
                  have fA : w3.frozen? ⟨g, off + (lkAt n.links j).af.toNat, none⟩ = false := (hc _ (by omega)).2
                  have fB : w3.frozen? ⟨g, off + (lkAt n.links j).be.toNat, none⟩ = false := (hc _ (by omega)).2
                  clear hc
                  go_still_tail 12, (by kernel_rfl)
                  go_wp2_with fail
                  go_roundg (n.links.length - (j + 1))
                  case measure => have := Hj.out; omega
                  case rel =>
                    have e3 : upTo n.links (upX n.links (upStart n.sets.length a.toNat) r) (j + 1) = up2 (lkAt n.links j) y := by show up2 _ (upTo _ _ _) = _; rw [Hy.out]
                    have e4 : up2 (lkAt n.links j) y = y1.set (lkAt n.links j).be.toNat (inAt y1 (lkAt n.links j).af.toNat - (lkAt n.links j).le) := by unfold up2; rw [Hy1.out, relax_yes (by have := Ht2.out; omega), Int.sub_eq_add_neg]
                    refine ⟨j + 1, true, by have := Hj.out; omega, rfl, by go_num, (hxr3.setCell (by show _ ≤ g; omega) _).drew, (Hb3.out.setOther (by show w.heap.size ≠ g; omega) _).ext ((Ext.refl _).drew), ?_, ?_⟩
                    rotate_left
                    · rw [e3]; exact ⟨fun _ => Hup.out.1 (.inr (.inr (by rw [Hy1.out]; have := Ht2.out; omega))), fun _ => rfl⟩
                    rw [e3, e4]
                    exact (Own.setInt Hown3.out (by omega) (by rw [← Hy1.out]; exact (relax_len _ _ _ _).trans Hlen.out) _).ext ((Ext.refl _).drew)
                · have T2 : decide (inAt y1 (lkAt n.links j).af.toNat - (lkAt n.links j).le < inAt y1 (lkAt n.links j).be.toNat) = false := decide_eq_false (by omega)
                  have Ht2 := Lib.hid t2
                  clear t2
                  go_wp2_with fail
                  (refine wp_region_onto prog_mixed (by kernel_rfl) ?_; (repeat (go_big_quiet_step ((fail)))); refine onto_end ?_; intro w3 hx3)
                  go_wp2_with fail
                  have hxw3 : Ext w1 w3 := (by repeat (first | exact Ext.refl _ | assumption | refine Ext.alloc ?_ _ | refine Ext.drew ?_ | refine Ext.drewN ?_ _ | refine Ext.setCell ?_ (by first | (simp; done) | (simp; omega) | omega) _ | refine Ext.trans ?_ (by assumption)))
                  have hxr3 : Ext w w3 := hxr1.trans hxw3
                  have Hb3 := Lib.hid (Hhb.out.ext hxw3)
                  have Hown3 := Lib.hid (Hown2.out.ext hxw3)
                  go_roundg (n.links.length - (j + 1))
                  case measure => have := Hj.out; omega
                  case rel =>
                    have e3 : upTo n.links (upX n.links (upStart n.sets.length a.toNat) r) (j + 1) = up2 (lkAt n.links j) y := by show up2 _ (upTo _ _ _) = _; rw [Hy.out]
                    have e4 : up2 (lkAt n.links j) y = y1 := by unfold up2; rw [Hy1.out, relax_no (by have := Ht2.out; omega)]
                    refine ⟨j + 1, b, by have := Hj.out; omega, rfl, by go_num, hxr3, Hb3.out, ?_, ?_⟩
                    rotate_left
                    · rw [e3]; exact ⟨fun hb => Hup.out.1 (.inl hb), fun hn => (Hup.out.2 hn).elim id (fun h => h.elim (fun h => by have := Ht1.out; omega) (fun h => by rw [Hy1.out] at h; have := Ht2.out; omega))⟩
                    rw [e3, e4]
                    exact Hown3.out
            · obtain rfl : j = n.links.length := by have := Hj.out; omega
              cases b
              · go_wp2_with fail
                go_ret2
                have hok0 : LksOk n.links (upStart n.sets.length a.toNat).length := by rw [upStart_len]; exact Hok.out.2.2.2
                have hst : upX n.links (upStart n.sets.length a.toNat) (r + 1) = upX n.links (upStart n.sets.length a.toNat) r := Classical.byContradiction (fun hh => by cases Hbx.out.2 hh)
                unfold UpPost
                rw [B_true (upX_still hok0 hst)]
                refine ⟨_, rfl, (by repeat (first | exact Ext.refl _ | assumption | refine Ext.alloc ?_ _ | refine Ext.drew ?_ | refine Ext.drewN ?_ _ | refine Ext.setCell ?_ (by first | (simp; done) | (simp; omega) | omega) _ | refine Ext.trans ?_ (by assumption))), fun _ => ?_⟩
                rw [← upV_of_still hok0 hst]
                have hrow := Hown.out.row (lo := 0) (hi := wr.heap.size) (fun h0 => ⟨Nat.zero_le _, Hown.out.lt h0⟩)
                have hl : (upX n.links (upStart n.sets.length a.toNat) r).length = n.sets.length := by rw [upX_len, upStart_len]
                unfold Ints
                rw [hl]
                have he : upTo n.links (upX n.links (upStart n.sets.length a.toNat) r) n.links.length = upX n.links (upStart n.sets.length a.toNat) r := hst
                rw [he] at hrow
                exact hrow
              · go_wp2_with fail
                go_roundg (n.sets.length + 1 - (r + 1))
                case measure => have := Hr.out; omega
                case rel => exact ⟨r + 1, by omega, by go_num, (by repeat (first | exact Ext.refl _ | assumption | refine Ext.alloc ?_ _ | refine Ext.drew ?_ | refine Ext.drewN ?_ _ | refine Ext.setCell ?_ (by first | (simp; done) | (simp; omega) | omega) _ | refine Ext.trans ?_ (by assumption))), Hhb.out, Hown.out, Hne.out.succ (Hbx.out.1 (by first | rfl | trivial))⟩
        · obtain rfl : r = n.sets.length + 1 := by have := Hr.out; omega
          go_wp2_with fail
          go_ret2
          have hok0 : LksOk n.links (upStart n.sets.length a.toNat).length := by rw [upStart_len]; exact Hok.out.2.2.2
          have hbad : ¬ UpOk n.links (upStart n.sets.length a.toNat) := Hne.out.bad hok0 (by rw [upStart_len]; omega)
          unfold UpPost
          rw [B_false hbad]
          exact ⟨_, rfl, (by repeat (first | exact Ext.refl _ | assumption | refine Ext.alloc ?_ _ | refine Ext.drew ?_ | refine Ext.drewN ?_ _ | refine Ext.setCell ?_ (by first | (simp; done) | (simp; omega) | omega) _ | refine Ext.trans ?_ (by assumption))), fun h => absurd h hbad⟩
end Go.Proofs.Ytfajmlkiidnhlaa
