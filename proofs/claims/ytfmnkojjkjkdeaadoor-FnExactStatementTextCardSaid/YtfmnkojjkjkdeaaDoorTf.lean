/- Contracts: StatementText. -/
import Derived.Test.YtfmnkojjkjkdeaaDoorTe
import Derived.Deep.QuietTactic
import Derived.BigQuiet
import Derived.StillTailTactics
namespace Go.Proofs.YtfmnkojjkjkdeaaDoor
set_option linter.unusedVariables false
set_option linter.unusedSimpArgs false
open Go.RowKit
attribute [local go_sem] cell_onto

noncomputable def stxE (n : Net) (i : Int) : Int := bif B (NetOk n) then (bif B (0 ≤ i ∧ i ≤ (n.sets.length : Int) + n.links.length - 1) then 0 else 2) else 1
def spB : ByteArray := ⟨#[32]⟩
def setB : ByteArray := ⟨#[115, 101, 116, 32]⟩
def lnkB : ByteArray := ⟨#[108, 105, 110, 107, 32]⟩
def linkB (l : Lk) : ByteArray := lnkB ++ numB l.be ++ spB ++ numB l.af ++ spB ++ numB l.le ++ spB ++ numB l.mo
noncomputable def stxT (n : Net) (i : Int) : ByteArray := bif B (stxE n i = 0) then (if i < n.sets.length then setB ++ numB i else linkB (lkAt n.links (i - n.sets.length).toNat)) else ⟨#[]⟩
theorem stx_net {n : Net} {i : Int} (h : ¬ NetOk n) : stxE n i = 1 ∧ stxT n i = ⟨#[]⟩ := by
  have e : stxE n i = 1 := by unfold stxE; rw [B_false h]; rfl
  exact ⟨e, by unfold stxT; rw [e, B_false (by omega)]; rfl⟩
theorem stx_far {n : Net} {i : Int} (h : NetOk n) (h2 : ¬ (0 ≤ i ∧ i ≤ (n.sets.length : Int) + n.links.length - 1)) : stxE n i = 2 ∧ stxT n i = ⟨#[]⟩ := by
  have e : stxE n i = 2 := by unfold stxE; rw [B_true h, B_false h2]; rfl
  exact ⟨e, by unfold stxT; rw [e, B_false (by omega)]; rfl⟩
theorem stx_ok {n : Net} {i : Int} (h : NetOk n) (h2 : 0 ≤ i ∧ i ≤ (n.sets.length : Int) + n.links.length - 1) : stxE n i = 0 ∧ stxT n i = (if i < n.sets.length then setB ++ numB i else linkB (lkAt n.links (i - n.sets.length).toNat)) := by
  have e : stxE n i = 0 := by unfold stxE; rw [B_true h, B_true h2]; rfl
  exact ⟨e, by unfold stxT; rw [e, B_true rfl]; rfl⟩
set_option maxRecDepth 100000 in
set_option maxHeartbeats 4000000 in
theorem impl_StatementText (s k : Value) (n : Net) (i : Int) (w : World) (h : NetIn w s k n) (ht : TabW w) : Calls Tryd.prog 9 #[.agg #[s, k], .int .i64 i] w (RetX (.tuple #[.string (stxT n i), .int .i64 (stxE n i)]) w) := by
  obtain ⟨As, cs, rfl, hns, hcs⟩ := h.1.len
  obtain ⟨Ak, ck, rfl, hnk, hck⟩ := h.2.len
  have H := Lib.hid h
  have Ht := Lib.hid ht
  clear h ht
  go_enter Tryd.func9, Tryd.ntmps9
  go_wp2_with fail
  refine Calls.mono (impl_IsNetwork _ _ n _ (H.out.up (by repeat (first | exact Ext.refl _ | assumption | refine Ext.alloc ?_ _ | refine Ext.drew ?_ | refine Ext.drewN ?_ _ | refine Ext.setCell ?_ (by first | (simp; done) | (simp; omega) | omega) _ | refine Ext.trans ?_ (by assumption))))) ?_
  rintro e w1 ⟨rfl, hx1⟩
  have hb := (Boxed.new w [.slice As n.sets.length cs, .slice Ak n.links.length ck] 32).ext hx1; have hb0 := hb.at0; have hb1 := hb.at1; have hbg := hb.1; have Hhb := Lib.hid hb; clear hb
  have hx : Ext w w1 := (by repeat (first | exact Ext.refl _ | assumption | refine Ext.alloc ?_ _ | refine Ext.drew ?_ | refine Ext.drewN ?_ _ | refine Ext.setCell ?_ (by first | (simp; done) | (simp; omega) | omega) _ | refine Ext.trans ?_ (by assumption)))
  clear hx1
  by_cases hok : NetOk n
  case neg =>
    rw [B_false hok]
    have Hok := Lib.hid hok
    clear hok
    go_wp2_with fail
    go_ret2
    exact ⟨by rw [(stx_net Hok.out).1, (stx_net Hok.out).2]; rfl, (by repeat (first | exact Ext.refl _ | assumption | refine Ext.alloc ?_ _ | refine Ext.drew ?_ | refine Ext.drewN ?_ _ | refine Ext.setCell ?_ (by first | (simp; done) | (simp; omega) | omega) _ | refine Ext.trans ?_ (by assumption)))⟩
  rw [B_true hok]
  have Hok := Lib.hid hok
  have hs8 : n.sets.length ≤ 8 := hok.1
  have hl20 : n.links.length ≤ 20 := hok.2.1
  clear hok
  go_wp2_with fail
  refine Calls.mono (impl_statementsOf _ _ n _ (H.out.up (by repeat (first | exact Ext.refl _ | assumption | refine Ext.alloc ?_ _ | refine Ext.drew ?_ | refine Ext.drewN ?_ _ | refine Ext.setCell ?_ (by first | (simp; done) | (simp; omega) | omega) _ | refine Ext.trans ?_ (by assumption)))) ⟨by omega, by omega⟩) ?_
  rintro e w2 ⟨rfl, hx2⟩
  have hbz := Hhb.out.ext hx2
  clear hb0 hb1 hbg Hhb
  have hb := hbz; have hb0 := hb.at0; have hb1 := hb.at1; have hbg := hb.1; have Hhb := Lib.hid hb; clear hb
  have hx3 : Ext w w2 := hx.trans hx2
  have W1 : IntKind.i64.wrap ((n.sets.length : Int) + n.links.length - 1) = (n.sets.length : Int) + n.links.length - 1 := IntWalk.i64_in _ (by omega)
  by_cases hi : 0 ≤ i ∧ i ≤ (n.sets.length : Int) + n.links.length - 1
  case neg =>
    have Hi := Lib.hid hi
    clear hi
    go_wp2_with fail
    refine Calls.mono (impl_within_b (B_false Hi.out) _) ?_
    rintro e w3 ⟨rfl, rfl⟩
    go_wp2_with fail
    go_ret2
    exact ⟨by rw [(stx_far Hok.out Hi.out).1, (stx_far Hok.out Hi.out).2]; rfl, (by repeat (first | exact Ext.refl _ | assumption | refine Ext.alloc ?_ _ | refine Ext.drew ?_ | refine Ext.drewN ?_ _ | refine Ext.setCell ?_ (by first | (simp; done) | (simp; omega) | omega) _ | refine Ext.trans ?_ (by assumption)))⟩
  have Hi := Lib.hid hi
  obtain ⟨m, rfl⟩ := Int.eq_ofNat_of_zero_le hi.1
  have hm : (m : Int) ≤ 28 := by omega
  clear hi
  go_wp2_with fail
  refine Calls.mono (impl_within_b (B_true Hi.out) _) ?_
  rintro e w3 ⟨rfl, rfl⟩
  by_cases hlt : (m : Int) < (n.sets.length : Int)
  · have Hlt := Lib.hid hlt
    have hsz : ¬ 9223372036854775807 < (setB).size + (numB (m : Int)).size := by
      have := numB_size (m : Int)
      have e : setB.size = 4 := rfl
      omega
    go_wp2_with fail
    refine Calls.mono (impl_decimal (m : Int) _ (by omega) (by omega) (Ht.out.ext hx3)) ?_
    rintro e w4 ⟨rfl, hx4⟩
    go_wp2_with fail
    go_ret2
    exact ⟨by rw [(stx_ok Hok.out Hi.out).1, (stx_ok Hok.out Hi.out).2, if_pos Hlt.out]; rfl, (by repeat (first | exact Ext.refl _ | assumption | refine Ext.alloc ?_ _ | refine Ext.drew ?_ | refine Ext.drewN ?_ _ | refine Ext.setCell ?_ (by first | (simp; done) | (simp; omega) | omega) _ | refine Ext.trans ?_ (by assumption)))⟩
  · have Hlt := Lib.hid hlt
    obtain ⟨q, hq⟩ : ∃ q : Nat, (m : Int) - n.sets.length = (q : Int) := ⟨m - n.sets.length, by omega⟩
    have Hq := Lib.hid hq
    have hqn : q < n.links.length := by have := Hi.out.2; omega
    obtain ⟨b, off, rfl, _, hb, h1, h2, h3, h4⟩ := (H.out.2.ext hx3 (Nat.le_refl _)).at_ hqn
    have W2 : IntKind.i64.wrap ((m : Int) - n.sets.length) = (q : Int) := by rw [IntWalk.i64_in _ (by omega)]; exact hq
    have hq0 : (0 : Int) ≤ (q : Int) := by omega
    have hq1 : (q : Int) < (n.links.length : Int) := by omega
    have hbw : b < w2.heap.size := Nat.lt_of_lt_of_le hb hx3.size
    have Hlk := Lib.hid (Hok.out.2.2.2 q hqn)
    clear hq
    obtain ⟨⟨a0, a1⟩, ⟨b0, b1⟩, _, ⟨c0, c1⟩, ⟨d0, d1⟩, _⟩ := Hlk.out
    go_wp2_with fail
    have hxa : Ext w (w2.alloc (.cells #[.int .i64 (lkAt n.links q).be, .int .i64 (lkAt n.links q).af, .int .i64 (lkAt n.links q).le, .int .i64 (lkAt n.links q).mo] 58)) := hx3.alloc _
    have hc := Boxed.new w2 [.int .i64 (lkAt n.links q).be, .int .i64 (lkAt n.links q).af, .int .i64 (lkAt n.links q).le, .int .i64 (lkAt n.links q).mo] 58; have hc0 := hc.at0; have hc1 := hc.at1; have hc2 := hc.at2; have hc3 := hc.at3; have hcg := hc.1; have Hhc := Lib.hid hc; clear hc
    have hsz1 := numB_size (lkAt n.links q).be
    have hsz2 := numB_size (lkAt n.links q).af
    have hsz3 := numB_size (lkAt n.links q).le
    have hsz4 := numB_size (lkAt n.links q).mo
    (refine wp_region_onto prog_mixed (by kernel_rfl) ?_; (repeat (go_big_quiet_step ((go_at_call 36; first | with_reducible exact onto_callX (impl_decimal (lkAt n.links q).be _ (by omega) (by omega) (Ht.out.ext (hxa.trans (onto_ext _ _)))) | with_reducible exact onto_callX (impl_decimal (lkAt n.links q).af _ (by omega) (by omega) (Ht.out.ext (hxa.trans (onto_ext _ _)))) | with_reducible exact onto_callX (impl_decimal (lkAt n.links q).le _ (by omega) (by omega) (Ht.out.ext (hxa.trans (onto_ext _ _)))) | with_reducible exact onto_callX (impl_decimal (lkAt n.links q).mo _ (by omega) (by omega) (Ht.out.ext (hxa.trans (onto_ext _ _)))))))); refine onto_end ?_; intro w9 hx9)
    go_wp2_with fail
    go_ret2
    exact ⟨by rw [(stx_ok Hok.out Hi.out).1, (stx_ok Hok.out Hi.out).2, if_neg (show ¬ (m : Int) < (n.sets.length : Int) from by have := Hlt.out; omega), Hq.out, Int.toNat_natCast]; rfl, hxa.trans hx9⟩
end Go.Proofs.YtfmnkojjkjkdeaaDoor
