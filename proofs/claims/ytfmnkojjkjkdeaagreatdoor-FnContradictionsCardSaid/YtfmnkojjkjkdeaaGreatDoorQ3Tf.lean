/- Texts merged (a claim holds at most sixty files): Tf, Ti. -/
import Derived.Test.YtfmnkojjkjkdeaaGreatDoorQ3Te
import Derived.Deep.QuietTactic
import Derived.BigQuiet
import Derived.StillTailTactics
import Derived.Test.YtfmnkojjkjkdeaaGreatDoorQ3Td
import Derived.Deep.RegionHeld3
/- Contracts: StatementText. -/
namespace Go.Proofs.YtfmnkojjkjkdeaaGreatDoor
set_option linter.unusedVariables false
set_option linter.unusedSimpArgs false
open Go.RowKit
attribute [local go_sem] cell_onto

noncomputable def stxE (n : Net) (i : Int) : Int := bif B (NetOk n) then (bif B (0 ≤ i ∧ i ≤ (n.sets.length : Int) + n.links.length - 1) then 0 else 2) else 1
def spB : ByteArray := ⟨#[32]⟩
def setB : ByteArray := ⟨#[115, 101, 116, 32]⟩
def lnkB : ByteArray := ⟨#[108, 105, 110, 107, 32]⟩
def linkB (l : Lk) : ByteArray := lnkB ++ numB l.be ++ spB ++ numB l.af ++ spB ++ numB l.le ++ spB ++ numB l.mo
noncomputable def stxT (n : Net) (i : Int) : ByteArray := bif B (stxE n i = 0) then (if i < n.sets.length then setB ++ numB i else linkB (lkAt n.links (i - n.sets.length).toNat)) else ⟨#[]⟩
theorem stx_net {n : Net} {i : Int} (h : ¬ NetOk n) : stxE n i = 1 ∧ stxT n i = ⟨#[]⟩ := by
  have e : stxE n i = 1 := by unfold stxE; rw [B_false h]; rfl
  exact ⟨e, by unfold stxT; rw [e, B_false (by omega)]; rfl⟩
theorem stx_far {n : Net} {i : Int} (h : NetOk n) (h2 : ¬ (0 ≤ i ∧ i ≤ (n.sets.length : Int) + n.links.length - 1)) : stxE n i = 2 ∧ stxT n i = ⟨#[]⟩ := by
  have e : stxE n i = 2 := by unfold stxE; rw [B_true h, B_false h2]; rfl
  exact ⟨e, by unfold stxT; rw [e, B_false (by omega)]; rfl⟩
theorem stx_ok {n : Net} {i : Int} (h : NetOk n) (h2 : 0 ≤ i ∧ i ≤ (n.sets.length : Int) + n.links.length - 1) : stxE n i = 0 ∧ stxT n i = (if i < n.sets.length then setB ++ numB i else linkB (lkAt n.links (i - n.sets.length).toNat)) := by
  have e : stxE n i = 0 := by unfold stxE; rw [B_true h, B_true h2]; rfl
  exact ⟨e, by unfold stxT; rw [e, B_true rfl]; rfl⟩
set_option maxRecDepth 100000 in
set_option maxHeartbeats 4000000 in
theorem impl_StatementText (s k : Value) (n : Net) (i : Int) (w : World) (h : NetIn w s k n) (ht : TabW w) : Calls Tryz.prog 18 #[.agg #[s, k], .int .i64 i] w (RetX (.tuple #[.string (stxT n i), .int .i64 (stxE n i)]) w) := by
  obtain ⟨As, cs, rfl, hns, hcs⟩ := h.1.len
  obtain ⟨Ak, ck, rfl, hnk, hck⟩ := h.2.len
  have H := Lib.hid h
  have Ht := Lib.hid ht
  clear h ht
  go_enter Tryz.func18, Tryz.ntmps18
  go_wp2_with fail
  refine Calls.mono (impl_IsNetwork _ _ n _ (H.out.up (by repeat (first | exact Ext.refl _ | assumption | refine Ext.alloc ?_ _ | refine Ext.drew ?_ | refine Ext.drewN ?_ _ | refine Ext.setCell ?_ (by first | (simp; done) | (simp; omega) | omega) _ | refine Ext.trans ?_ (by assumption))))) ?_
  rintro e w1 ⟨rfl, hx1⟩
  have hb := (Boxed.new w [.slice As n.sets.length cs, .slice Ak n.links.length ck] 27).ext hx1; have hb0 := hb.at0; have hb1 := hb.at1; have hbg := hb.1; have Hhb := Lib.hid hb; clear hb
  have hx : Ext w w1 := (by repeat (first | exact Ext.refl _ | assumption | refine Ext.alloc ?_ _ | refine Ext.drew ?_ | refine Ext.drewN ?_ _ | refine Ext.setCell ?_ (by first | (simp; done) | (simp; omega) | omega) _ | refine Ext.trans ?_ (by assumption)))
  clear hx1
  by_cases hok : NetOk n
  case neg =>
    rw [B_false hok]
    have Hok := Lib.hid hok
    clear hok
    go_wp2_with fail
    go_ret2
    exact ⟨by rw [(stx_net Hok.out).1, (stx_net Hok.out).2]; rfl, (by repeat (first | exact Ext.refl _ | assumption | refine Ext.alloc ?_ _ | refine Ext.drew ?_ | refine Ext.drewN ?_ _ | refine Ext.setCell ?_ (by first | (simp; done) | (simp; omega) | omega) _ | refine Ext.trans ?_ (by assumption)))⟩
  rw [B_true hok]
  have Hok := Lib.hid hok
  have hs8 : n.sets.length ≤ 8 := hok.1
  have hl20 : n.links.length ≤ 20 := hok.2.1
  clear hok
  go_wp2_with fail
  refine Calls.mono (impl_statementsOf _ _ n _ (H.out.up (by repeat (first | exact Ext.refl _ | assumption | refine Ext.alloc ?_ _ | refine Ext.drew ?_ | refine Ext.drewN ?_ _ | refine Ext.setCell ?_ (by first | (simp; done) | (simp; omega) | omega) _ | refine Ext.trans ?_ (by assumption)))) ⟨by omega, by omega⟩) ?_
  rintro e w2 ⟨rfl, hx2⟩
  have hbz := Hhb.out.ext hx2
  clear hb0 hb1 hbg Hhb
  have hb := hbz; have hb0 := hb.at0; have hb1 := hb.at1; have hbg := hb.1; have Hhb := Lib.hid hb; clear hb
  have hx3 : Ext w w2 := hx.trans hx2
  have W1 : IntKind.i64.wrap ((n.sets.length : Int) + n.links.length - 1) = (n.sets.length : Int) + n.links.length - 1 := IntWalk.i64_in _ (by omega)
  by_cases hi : 0 ≤ i ∧ i ≤ (n.sets.length : Int) + n.links.length - 1
  case neg =>
    have Hi := Lib.hid hi
    clear hi
    go_wp2_with fail
    refine Calls.mono (impl_within_b (B_false Hi.out) _) ?_
    rintro e w3 ⟨rfl, rfl⟩
    go_wp2_with fail
    go_ret2
    exact ⟨by rw [(stx_far Hok.out Hi.out).1, (stx_far Hok.out Hi.out).2]; rfl, (by repeat (first | exact Ext.refl _ | assumption | refine Ext.alloc ?_ _ | refine Ext.drew ?_ | refine Ext.drewN ?_ _ | refine Ext.setCell ?_ (by first | (simp; done) | (simp; omega) | omega) _ | refine Ext.trans ?_ (by assumption)))⟩
  have Hi := Lib.hid hi
  obtain ⟨m, rfl⟩ := Int.eq_ofNat_of_zero_le hi.1
  have hm : (m : Int) ≤ 28 := by omega
  clear hi
  go_wp2_with fail
  refine Calls.mono (impl_within_b (B_true Hi.out) _) ?_
  rintro e w3 ⟨rfl, rfl⟩
  by_cases hlt : (m : Int) < (n.sets.length : Int)
  · have Hlt := Lib.hid hlt
    have hsz : ¬ 9223372036854775807 < (setB).size + (numB (m : Int)).size := by
      have := numB_size (m : Int)
      have e : setB.size = 4 := rfl
      omega
    go_wp2_with fail
    refine Calls.mono (impl_decimal (m : Int) _ (by omega) (by omega) (Ht.out.ext hx3)) ?_
    rintro e w4 ⟨rfl, hx4⟩
    go_wp2_with fail
    go_ret2
    exact ⟨by rw [(stx_ok Hok.out Hi.out).1, (stx_ok Hok.out Hi.out).2, if_pos Hlt.out]; rfl, (by repeat (first | exact Ext.refl _ | assumption | refine Ext.alloc ?_ _ | refine Ext.drew ?_ | refine Ext.drewN ?_ _ | refine Ext.setCell ?_ (by first | (simp; done) | (simp; omega) | omega) _ | refine Ext.trans ?_ (by assumption)))⟩
  · have Hlt := Lib.hid hlt
    obtain ⟨q, hq⟩ : ∃ q : Nat, (m : Int) - n.sets.length = (q : Int) := ⟨m - n.sets.length, by omega⟩
    have Hq := Lib.hid hq
    have hqn : q < n.links.length := by have := Hi.out.2; omega
    obtain ⟨b, off, rfl, _, hb, h1, h2, h3, h4⟩ := (H.out.2.ext hx3 (Nat.le_refl _)).at_ hqn
    have W2 : IntKind.i64.wrap ((m : Int) - n.sets.length) = (q : Int) := by rw [IntWalk.i64_in _ (by omega)]; exact hq
    have hq0 : (0 : Int) ≤ (q : Int) := by omega
    have hq1 : (q : Int) < (n.links.length : Int) := by omega
    have hbw : b < w2.heap.size := Nat.lt_of_lt_of_le hb hx3.size
    have Hlk := Lib.hid (Hok.out.2.2.2 q hqn)
    clear hq
    obtain ⟨⟨a0, a1⟩, ⟨b0, b1⟩, _, ⟨c0, c1⟩, ⟨d0, d1⟩, _⟩ := Hlk.out
    go_wp2_with fail
    have hxa : Ext w (w2.alloc (.cells #[.int .i64 (lkAt n.links q).be, .int .i64 (lkAt n.links q).af, .int .i64 (lkAt n.links q).le, .int .i64 (lkAt n.links q).mo] 118)) := hx3.alloc _
    have hc := Boxed.new w2 [.int .i64 (lkAt n.links q).be, .int .i64 (lkAt n.links q).af, .int .i64 (lkAt n.links q).le, .int .i64 (lkAt n.links q).mo] 118; have hc0 := hc.at0; have hc1 := hc.at1; have hc2 := hc.at2; have hc3 := hc.at3; have hcg := hc.1; have Hhc := Lib.hid hc; clear hc
    have hsz1 := numB_size (lkAt n.links q).be
    have hsz2 := numB_size (lkAt n.links q).af
    have hsz3 := numB_size (lkAt n.links q).le
    have hsz4 := numB_size (lkAt n.links q).mo
    (refine wp_region_onto prog_mixed (by kernel_rfl) ?_; (repeat (go_big_quiet_step ((go_at_call 69; first | with_reducible exact onto_callX (impl_decimal (lkAt n.links q).be _ (by omega) (by omega) (Ht.out.ext (hxa.trans (onto_ext _ _)))) | with_reducible exact onto_callX (impl_decimal (lkAt n.links q).af _ (by omega) (by omega) (Ht.out.ext (hxa.trans (onto_ext _ _)))) | with_reducible exact onto_callX (impl_decimal (lkAt n.links q).le _ (by omega) (by omega) (Ht.out.ext (hxa.trans (onto_ext _ _)))) | with_reducible exact onto_callX (impl_decimal (lkAt n.links q).mo _ (by omega) (by omega) (Ht.out.ext (hxa.trans (onto_ext _ _)))))))); refine onto_end ?_; intro w9 hx9)
    go_wp2_with fail
    go_ret2
    exact ⟨by rw [(stx_ok Hok.out Hi.out).1, (stx_ok Hok.out Hi.out).2, if_neg (show ¬ (m : Int) < (n.sets.length : Int) from by have := Hlt.out; omega), Hq.out, Int.toNat_natCast]; rfl, hxa.trans hx9⟩
end Go.Proofs.YtfmnkojjkjkdeaaGreatDoor

/- Contract: the reference's StatementText. -/
namespace Go.Proofs.YtfmnkojjkjkdeaaGreatDoor
set_option linter.unusedVariables false
set_option linter.unusedSimpArgs false
open Go.RowKit
attribute [local go_sem] cell_onto

def lk4 (l : Lk) : Nat → ByteArray
  | 0 => numB l.be
  | 1 => numB l.af
  | 2 => numB l.le
  | _ => numB l.mo
theorem join_link (l : Lk) : (⟨#[108, 105, 110, 107, 32]⟩ : ByteArray) ++ joinN (lk4 l) ⟨#[32]⟩ 4 = linkB l := by
  rw [joinN_next _ _ (show 0 < 3 by omega), joinN_next _ _ (show 0 < 2 by omega), joinN_next _ _ (show 0 < 1 by omega), joinN_first]
  unfold linkB lnkB spB lk4 joinN
  apply ByteArray.ext
  simp
theorem ext_keep4 {w w' : World} {p : Nat} {a b c d : Value} (hx : Ext w w') (hp : p < w.heap.size) (h0 : w.cell? ⟨p, 0, none⟩ = some a) (h1 : w.cell? ⟨p, 1, none⟩ = some b) (h2 : w.cell? ⟨p, 2, none⟩ = some c) (h3 : w.cell? ⟨p, 3, none⟩ = some d) :
    Ext w w' ∧ w'.cell? ⟨p, 0, none⟩ = some a ∧ w'.cell? ⟨p, 1, none⟩ = some b ∧ w'.cell? ⟨p, 2, none⟩ = some c ∧ w'.cell? ⟨p, 3, none⟩ = some d :=
  ⟨hx, (hx.cell (p := ⟨p, 0, none⟩) hp).trans h0, (hx.cell (p := ⟨p, 1, none⟩) hp).trans h1, (hx.cell (p := ⟨p, 2, none⟩) hp).trans h2, (hx.cell (p := ⟨p, 3, none⟩) hp).trans h3⟩
theorem lk4_at (w : World) (l : Lk) {i : Nat} (hi : i < 4) : (w.alloc (.cells #[.string (numB l.be), .string (numB l.af), .string (numB l.le), .string (numB l.mo)] 9)).cell? ⟨w.heap.size, i, none⟩ = some (.string (lk4 l i)) := by
  have hb := Boxed.new w [.string (numB l.be), .string (numB l.af), .string (numB l.le), .string (numB l.mo)] 9
  match i, hi with
  | 0, _ => exact hb.at0
  | 1, _ => exact hb.at1
  | 2, _ => exact hb.at2
  | 3, _ => exact hb.at3
theorem lk4_size {l : Lk} (h1 : (numB l.be).size ≤ l.be.natAbs + 2) (h2 : (numB l.af).size ≤ l.af.natAbs + 2) (h3 : (numB l.le).size ≤ l.le.natAbs + 2) (h4 : (numB l.mo).size ≤ l.mo.natAbs + 2) (b1 : l.be.natAbs ≤ 800000) (b2 : l.af.natAbs ≤ 800000) (b3 : l.le.natAbs ≤ 800000) (b4 : l.mo.natAbs ≤ 800000) {i : Nat} (hi : i < 4) : (lk4 l i).size ≤ 1000000 := by
  match i, hi with
  | 0, _ => show (numB l.be).size ≤ _; omega
  | 1, _ => show (numB l.af).size ≤ _; omega
  | 2, _ => show (numB l.le).size ≤ _; omega
  | 3, _ => show (numB l.mo).size ≤ _; omega
set_option maxRecDepth 100000 in
set_option maxHeartbeats 4000000 in
theorem spec_StatementText (s k : Value) (n : Net) (i : Int) (w : World) (h : NetIn w s k n) : Calls Tryz.prog 19 #[.agg #[s, k], .int .i64 i] w (RetX (.tuple #[.string (stxT n i), .int .i64 (stxE n i)]) w) := by
  obtain ⟨As, cs, rfl, hns, hcs⟩ := h.1.len
  obtain ⟨Ak, ck, rfl, hnk, hck⟩ := h.2.len
  have H := Lib.hid h
  clear h
  go_enter Tryz.func19, Tryz.ntmps19
  go_wp2_with fail
  refine Calls.mono (spec_IsNetwork _ _ n _ (H.out.up (by repeat (first | exact Ext.refl _ | assumption | refine Ext.alloc ?_ _ | refine Ext.drew ?_ | refine Ext.drewN ?_ _ | refine Ext.setCell ?_ (by first | (simp; done) | (simp; omega) | omega) _ | refine Ext.trans ?_ (by assumption))))) ?_
  rintro e w1 ⟨rfl, hx1⟩
  have hb := (Boxed.new w [.slice As n.sets.length cs, .slice Ak n.links.length ck] 27).ext hx1; have hb0 := hb.at0; have hb1 := hb.at1; have hbg := hb.1; have Hhb := Lib.hid hb; clear hb
  have hx : Ext w w1 := (by repeat (first | exact Ext.refl _ | assumption | refine Ext.alloc ?_ _ | refine Ext.drew ?_ | refine Ext.drewN ?_ _ | refine Ext.setCell ?_ (by first | (simp; done) | (simp; omega) | omega) _ | refine Ext.trans ?_ (by assumption)))
  clear hx1
  by_cases hok : NetOk n
  case neg =>
    rw [B_false hok]
    have Hok := Lib.hid hok
    clear hok
    go_wp2_with fail
    go_ret2
    exact ⟨by rw [(stx_net Hok.out).1, (stx_net Hok.out).2]; rfl, (by repeat (first | exact Ext.refl _ | assumption | refine Ext.alloc ?_ _ | refine Ext.drew ?_ | refine Ext.drewN ?_ _ | refine Ext.setCell ?_ (by first | (simp; done) | (simp; omega) | omega) _ | refine Ext.trans ?_ (by assumption)))⟩
  rw [B_true hok]
  have Hok := Lib.hid hok
  have hs8 : n.sets.length ≤ 8 := hok.1
  have hl20 : n.links.length ≤ 20 := hok.2.1
  clear hok
  go_wp2_with fail
  refine Calls.mono (spec_l21Count _ _ n _ (H.out.up (by repeat (first | exact Ext.refl _ | assumption | refine Ext.alloc ?_ _ | refine Ext.drew ?_ | refine Ext.drewN ?_ _ | refine Ext.setCell ?_ (by first | (simp; done) | (simp; omega) | omega) _ | refine Ext.trans ?_ (by assumption)))) ⟨by omega, by omega⟩) ?_
  rintro e w2 ⟨rfl, hx2⟩
  have hbz := Hhb.out.ext hx2
  clear hb0 hb1 hbg Hhb
  have hb := hbz; have hb0 := hb.at0; have hb1 := hb.at1; have hbg := hb.1; have Hhb := Lib.hid hb; clear hb
  have hx3 : Ext w w2 := hx.trans hx2
  have W1 : IntKind.i64.wrap ((n.sets.length : Int) + n.links.length - 1) = (n.sets.length : Int) + n.links.length - 1 := IntWalk.i64_in _ (by omega)
  by_cases hi : 0 ≤ i ∧ i ≤ (n.sets.length : Int) + n.links.length - 1
  case neg =>
    have Hi := Lib.hid hi
    clear hi
    go_wp2_with fail
    refine Calls.mono (spec_l01In_b (B_false Hi.out) _) ?_
    rintro e w3 ⟨rfl, rfl⟩
    go_wp2_with fail
    go_ret2
    exact ⟨by rw [(stx_far Hok.out Hi.out).1, (stx_far Hok.out Hi.out).2]; rfl, (by repeat (first | exact Ext.refl _ | assumption | refine Ext.alloc ?_ _ | refine Ext.drew ?_ | refine Ext.drewN ?_ _ | refine Ext.setCell ?_ (by first | (simp; done) | (simp; omega) | omega) _ | refine Ext.trans ?_ (by assumption)))⟩
  have Hi := Lib.hid hi
  obtain ⟨m, rfl⟩ := Int.eq_ofNat_of_zero_le hi.1
  have hm : (m : Int) ≤ 28 := by omega
  clear hi
  go_wp2_with fail
  refine Calls.mono (spec_l01In_b (B_true Hi.out) _) ?_
  rintro e w3 ⟨rfl, rfl⟩
  by_cases hlt : (m : Int) < (n.sets.length : Int)
  · have Hlt := Lib.hid hlt
    have en : numB (m : Int) = decB m := numB_pos (by omega)
    have Hen := Lib.hid en
    clear en
    have hsz : ¬ 9223372036854775807 < (setB).size + (decB m).size := by
      have := decB_size m
      have e : setB.size = 4 := rfl
      omega
    go_wp2_with fail
    refine Calls.mono (spec_l01Dec m _ (by omega)) ?_
    rintro e w4 ⟨rfl, hx4⟩
    go_wp2_with fail
    go_ret2
    exact ⟨by rw [(stx_ok Hok.out Hi.out).1, (stx_ok Hok.out Hi.out).2, if_pos Hlt.out, Hen.out]; rfl, (by repeat (first | exact Ext.refl _ | assumption | refine Ext.alloc ?_ _ | refine Ext.drew ?_ | refine Ext.drewN ?_ _ | refine Ext.setCell ?_ (by first | (simp; done) | (simp; omega) | omega) _ | refine Ext.trans ?_ (by assumption)))⟩
  · have Hlt := Lib.hid hlt
    obtain ⟨q, hq⟩ : ∃ q : Nat, (m : Int) - n.sets.length = (q : Int) := ⟨m - n.sets.length, by omega⟩
    have Hq := Lib.hid hq
    have hqn : q < n.links.length := by have := Hi.out.2; omega
    obtain ⟨b, off, rfl, _, hb, h1, h2, h3, h4⟩ := (H.out.2.ext hx3 (Nat.le_refl _)).at_ hqn
    have W2 : IntKind.i64.wrap ((m : Int) - n.sets.length) = (q : Int) := by rw [IntWalk.i64_in _ (by omega)]; exact hq
    have hq0 : (0 : Int) ≤ (q : Int) := by omega
    have hq1 : (q : Int) < (n.links.length : Int) := by omega
    have hbw : b < w2.heap.size := Nat.lt_of_lt_of_le hb hx3.size
    have Hlk := Lib.hid (Hok.out.2.2.2 q hqn)
    clear hq
    obtain ⟨⟨a0, a1⟩, ⟨b0, b1⟩, _, ⟨c0, c1⟩, ⟨d0, d1⟩, _⟩ := Hlk.out
    go_wp2_with fail
    obtain ⟨w3, hw3⟩ : ∃ x : World, x = w2.alloc (.cells #[.int .i64 (lkAt n.links q).be, .int .i64 (lkAt n.links q).af, .int .i64 (lkAt n.links q).le, .int .i64 (lkAt n.links q).mo] 118) := ⟨_, rfl⟩
    have hxw3 : Ext w w3 := by rw [hw3]; exact hx3.alloc _
    have hB3 : Boxed w3 w2.heap.size [.int .i64 (lkAt n.links q).be, .int .i64 (lkAt n.links q).af, .int .i64 (lkAt n.links q).le, .int .i64 (lkAt n.links q).mo] := by rw [hw3]; exact Boxed.new w2 [.int .i64 (lkAt n.links q).be, .int .i64 (lkAt n.links q).af, .int .i64 (lkAt n.links q).le, .int .i64 (lkAt n.links q).mo] 118
    have z0 := hB3.at0
    have z1 := hB3.at1
    have z2 := hB3.at2
    have z3 := hB3.at3
    have zg := hB3.1
    rw [← hw3]
    clear hw3 hB3
    have hsz1 := numB_size (lkAt n.links q).be
    have hsz2 := numB_size (lkAt n.links q).af
    have hsz3 := numB_size (lkAt n.links q).le
    have hsz4 := numB_size (lkAt n.links q).mo
    have hsj : (joinN (lk4 (lkAt n.links q)) ⟨#[32]⟩ 4).size ≤ 2 * 1000000 * 4 := joinN_size (f := lk4 (lkAt n.links q)) (M := 1000000) (b := ⟨#[32]⟩) (by decide) 4 (fun i hi => lk4_size hsz1 hsz2 hsz3 hsz4 (by omega) (by omega) (by omega) (by omega) hi)
    have hs5 : ¬ 9223372036854775807 < (⟨#[108, 105, 110, 107, 32]⟩ : ByteArray).size + (joinN (lk4 (lkAt n.links q)) ⟨#[32]⟩ 4).size := (by have e : (⟨#[108, 105, 110, 107, 32]⟩ : ByteArray).size = 5 := rfl; omega)
    have hs6 : 5 + (joinN (lk4 (lkAt n.links q)) ⟨#[32]⟩ 4).size ≤ 9223372036854775807 := (by omega)
    have hs7 : ¬ 9223372036854775807 < 5 + (joinN (lk4 (lkAt n.links q)) ⟨#[32]⟩ 4).size := (by omega)
    have hs8 : (joinN (lk4 (lkAt n.links q)) ⟨#[32]⟩ 4).size ≤ 9223372036854775802 := (by omega)
    have hs9 : ¬ 9223372036854775802 < (joinN (lk4 (lkAt n.links q)) ⟨#[32]⟩ 4).size := (by omega)
    go_region_held3 (fun w' => Ext w3 w' ∧ w'.cell? ⟨w2.heap.size, 0, none⟩ = some (.int .i64 (lkAt n.links q).be) ∧ w'.cell? ⟨w2.heap.size, 1, none⟩ = some (.int .i64 (lkAt n.links q).af) ∧ w'.cell? ⟨w2.heap.size, 2, none⟩ = some (.int .i64 (lkAt n.links q).le) ∧ w'.cell? ⟨w2.heap.size, 3, none⟩ = some (.int .i64 (lkAt n.links q).mo))
      (exact ext_keep4 (by repeat (first | assumption | exact (by assumption : Ext w3 _ ∧ _).1 | exact Ext.refl _ | refine Ext.drew ?_ | refine Ext.alloc ?_ _)) zg z0 z1 z2 z3)
      (first
        | (go_at_call 74; refine Calls.mono (spec_l21Number _ _ (by omega) (by omega)) ?_; rintro e w5 ⟨rfl, hx5⟩; have hE5 := (by assumption : Ext w3 _ ∧ _).1.trans hx5; clear hx5)
        | (go_at_call 73; refine Calls.mono (spec_l01Join _ 4 4 (lk4 (lkAt n.links q)) ⟨#[32]⟩ _ (by omega) (by omega) (by simp) (fun i hi => lk4_at _ (lkAt n.links q) hi) (by decide) (fun i hi => lk4_size hsz1 hsz2 hsz3 hsz4 (by omega) (by omega) (by omega) (by omega) hi)) ?_; rintro e w6 ⟨rfl, hx6⟩; have hE6 := hE5.trans (((Ext.refl _).alloc _).trans hx6)))
    go_wp2_with fail
    go_ret2
    exact ⟨by rw [(stx_ok Hok.out Hi.out).1, (stx_ok Hok.out Hi.out).2, if_neg (show ¬ (m : Int) < (n.sets.length : Int) from by have := Hlt.out; omega), Hq.out, Int.toNat_natCast, ← join_link]; rfl, hxw3.trans hE6⟩
end Go.Proofs.YtfmnkojjkjkdeaaGreatDoor
