/- Contracts: IsNarrow. -/
import Derived.Test.YtkkomdghilmnaaaLr
import Derived.Test.YtkkomdghilmnaaaSm
namespace Go.Proofs.Ytkkomdghilmnaaa
set_option linter.unusedVariables false
set_option linter.unusedSimpArgs false
open Go.RowKit
attribute [local go_sem] cell_onto

set_option maxHeartbeats 2000000 in
theorem impl_IsNarrow (s k : Value) (n : Net) (w : World) (h : NetIn w s k n) : Calls Try.prog 13 #[.agg #[s, k]] w (RetX (.tuple #[.bool (isnV n), .int .i64 (isnE n)]) w) := by
  have H := Lib.hid h
  clear h
  go_enter Try.func13, Try.ntmps13
  go_wp2_with fail
  refine Calls.mono (impl_IsNetwork s k n _ (H.out.up (by repeat (first | exact Ext.refl _ | assumption | refine Ext.alloc ?_ _ | refine Ext.drew ?_ | refine Ext.drewN ?_ _ | refine Ext.setCell ?_ (by first | (simp; done) | (simp; omega) | omega) _ | refine Ext.trans ?_ (by assumption))))) ?_
  rintro e w1 ⟨rfl, hx1⟩
  have hb := (Boxed.new w [s, k] 32).ext hx1; have hb0 := hb.at0; have hb1 := hb.at1; have hbg := hb.1; have Hhb := Lib.hid hb; clear hb
  have hx : Ext w w1 := (by repeat (first | exact Ext.refl _ | assumption | refine Ext.alloc ?_ _ | refine Ext.drew ?_ | refine Ext.drewN ?_ _ | refine Ext.setCell ?_ (by first | (simp; done) | (simp; omega) | omega) _ | refine Ext.trans ?_ (by assumption)))
  clear hx1
  by_cases hok : NetOk n
  · have Hok := Lib.hid hok
    rw [B_true hok]
    clear hok
    go_wp2_with fail
    refine Calls.mono (impl_ownNetwork s k n _ (H.out.up hx) Hok.out.small) ?_
    rintro e w2 hnew
    obtain ⟨Ao, co, Aq, cq, a, b, rfl, hx2, hS2⟩ := NetS.of2 hnew
    have hxb : Ext w2 (w2.alloc (.cells #[.slice Ao n.sets.length co, .slice Aq n.links.length cq] 32)) := (by repeat (first | exact Ext.refl _ | assumption | refine Ext.alloc ?_ _ | refine Ext.drew ?_ | refine Ext.drewN ?_ _ | refine Ext.setCell ?_ (by first | (simp; done) | (simp; omega) | omega) _ | refine Ext.trans ?_ (by assumption)))
    have HS := Lib.hid (hS2.ext hxb)
    have Hob := Lib.hid (Boxed.new w2 [.slice Ao n.sets.length co, .slice Aq n.links.length cq] 32)
    have hbw2 := hS2.bw
    have hbg := Hhb.out.1
    have Hnb := Lib.hid ((Hhb.out.ext hx2).ext hxb)
    have Hx := Lib.hid ((hx.trans hx2).trans hxb)
    have hz2 := hx2.size
    clear hnew hx2 hS2 hxb hb0 hb1 Hhb
    go_wp2_with fail
    refine Calls.mono (impl_narrowRound _ _ n w1.heap.size a b _ HS.out Hok.out.d) ?_
    rintro e w4 ⟨rfl, hO, hS4⟩
    have hla := HS.out.la
    have hzw := hx.size
    have hbw : b ≤ w2.heap.size := hbw2
    have HS4 := Lib.hid hS4
    have hx4 := Hx.out.off hO (fun x hx hh => by have := hh.1; omega)
    have nb := Hnb.out.off hO (fun hh => by have := hh.1; omega); have nb0 := nb.at0; have nb1 := nb.at1; have nbg := nb.1; have Hnb := Lib.hid nb; clear nb
    have ob := Hob.out.off hO (fun hh => by have := hh.2; omega); have ob0 := ob.at0; have ob1 := ob.at1; have obg := ob.1; have Hob := Lib.hid ob; clear ob
    clear hO hS4
    go_wp2_with fail
    refine Calls.mono (impl_sameSets s k _ _ n (narR n) _ (H.out.up hx4) HS4.out.netIn) ?_
    rintro e w5 ⟨rfl, hx5⟩
    go_wp2_with fail
    go_ret2
    exact ⟨by rw [(isn_ok Hok.out).1, (isn_ok Hok.out).2, B_congr (show n.sets = (narR n).sets ↔ Fix n from eq_comm)]; rfl, hx4.trans hx5⟩
  · have Hok := Lib.hid hok
    rw [B_false hok]
    clear hok
    go_wp2_with fail
    go_ret2
    exact ⟨by rw [(isn_no Hok.out).1, (isn_no Hok.out).2]; rfl, (by repeat (first | exact Ext.refl _ | assumption | refine Ext.alloc ?_ _ | refine Ext.drew ?_ | refine Ext.drewN ?_ _ | refine Ext.setCell ?_ (by first | (simp; done) | (simp; omega) | omega) _ | refine Ext.trans ?_ (by assumption)))⟩
set_option maxHeartbeats 2000000 in
theorem spec_IsNarrow (s k : Value) (n : Net) (w : World) (h : NetIn w s k n) : Calls Try.prog 11 #[.agg #[s, k]] w (RetX (.tuple #[.bool (isnV n), .int .i64 (isnE n)]) w) := by
  have H := Lib.hid h
  clear h
  go_enter Try.func11, Try.ntmps11
  go_wp2_with fail
  refine Calls.mono (spec_IsNetwork s k n _ (H.out.up (by repeat (first | exact Ext.refl _ | assumption | refine Ext.alloc ?_ _ | refine Ext.drew ?_ | refine Ext.drewN ?_ _ | refine Ext.setCell ?_ (by first | (simp; done) | (simp; omega) | omega) _ | refine Ext.trans ?_ (by assumption))))) ?_
  rintro e w1 ⟨rfl, hx1⟩
  have hb := (Boxed.new w [s, k] 32).ext hx1; have hb0 := hb.at0; have hb1 := hb.at1; have hbg := hb.1; have Hhb := Lib.hid hb; clear hb
  have hx : Ext w w1 := (by repeat (first | exact Ext.refl _ | assumption | refine Ext.alloc ?_ _ | refine Ext.drew ?_ | refine Ext.drewN ?_ _ | refine Ext.setCell ?_ (by first | (simp; done) | (simp; omega) | omega) _ | refine Ext.trans ?_ (by assumption)))
  clear hx1
  by_cases hok : NetOk n
  · have Hok := Lib.hid hok
    rw [B_true hok]
    have Hr := Lib.hid (narR_ok hok.d)
    have Hq := Lib.hid (show (netDays (narR n).sets = netDays n.sets) ↔ Fix n from netDays_eq Hr.out.1 hok.d Hr.out.2)
    clear hok
    go_wp2_with fail
    go_region_held3 (fun w' => w'.cell? ⟨w.heap.size, 0, none⟩ = some s ∧ w'.cell? ⟨w.heap.size, 1, none⟩ = some k ∧ Ext w1 w')
      (exact Ext.and_cell hbg hb0 (by repeat (first | exact Ext.refl _ | assumption | refine Ext.alloc ?_ _ | refine Ext.drew ?_ | refine Ext.drewN ?_ _ | refine Ext.setCell ?_ (by first | (simp; done) | (simp; omega) | omega) _ | refine Ext.trans ?_ (by assumption))) (Ext.and_cell hbg hb1 (by repeat (first | exact Ext.refl _ | assumption | refine Ext.alloc ?_ _ | refine Ext.drew ?_ | refine Ext.drewN ?_ _ | refine Ext.setCell ?_ (by first | (simp; done) | (simp; omega) | omega) _ | refine Ext.trans ?_ (by assumption))) (by repeat (first | exact Ext.refl _ | assumption | refine Ext.alloc ?_ _ | refine Ext.drew ?_ | refine Ext.drewN ?_ _ | refine Ext.setCell ?_ (by first | (simp; done) | (simp; omega) | omega) _ | refine Ext.trans ?_ (by assumption)))))
      ((first
        | (go_at_call 36; refine Calls.mono (spec_l19Round s k n _ (H.out.up (by repeat (first | exact Ext.refl _ | assumption | refine Ext.alloc ?_ _ | refine Ext.drew ?_ | refine Ext.drewN ?_ _ | refine Ext.setCell ?_ (by first | (simp; done) | (simp; omega) | omega) _ | refine Ext.trans ?_ (by assumption)))) Hok.out.d) ?_; rintro e wr hnew; obtain ⟨sr, kr, ar, br, rfl, hxr, hSr⟩ := NetS.of hnew; have HSr := Lib.hid hSr.netIn; clear hnew hSr)
        | (go_at_call 35; (with_reducible refine Calls.mono (spec_l19Count_d sr kr (narR n) _ ?_ Hr.out.1) ?_); exact HSr.out.up (by repeat (first | exact Ext.refl _ | assumption | refine Ext.alloc ?_ _ | refine Ext.drew ?_ | refine Ext.drewN ?_ _ | refine Ext.setCell ?_ (by first | (simp; done) | (simp; omega) | omega) _ | refine Ext.trans ?_ (by assumption))); rintro e wa ⟨rfl, hxa⟩)
        | (go_at_call 35; (with_reducible refine Calls.mono (spec_l19Count_d s k n _ ?_ Hok.out.d) ?_); exact H.out.up (by repeat (first | exact Ext.refl _ | assumption | refine Ext.alloc ?_ _ | refine Ext.drew ?_ | refine Ext.drewN ?_ _ | refine Ext.setCell ?_ (by first | (simp; done) | (simp; omega) | omega) _ | refine Ext.trans ?_ (by assumption))); rintro e wb ⟨rfl, hxb⟩)))
    go_wp2_with fail
    go_ret2
    have hb : (netDays (narR n).sets == netDays n.sets) = B (Fix n) := B_eq (beq_iff_eq.trans Hq.out)
    exact ⟨by rw [(isn_ok Hok.out).1, (isn_ok Hok.out).2, ← hb]; rfl, (by repeat (first | exact Ext.refl _ | assumption | refine Ext.alloc ?_ _ | refine Ext.drew ?_ | refine Ext.drewN ?_ _ | refine Ext.setCell ?_ (by first | (simp; done) | (simp; omega) | omega) _ | refine Ext.trans ?_ (by assumption)))⟩
  · have Hok := Lib.hid hok
    rw [B_false hok]
    clear hok
    go_wp2_with fail
    go_ret2
    exact ⟨by rw [(isn_no Hok.out).1, (isn_no Hok.out).2]; rfl, (by repeat (first | exact Ext.refl _ | assumption | refine Ext.alloc ?_ _ | refine Ext.drew ?_ | refine Ext.drewN ?_ _ | refine Ext.setCell ?_ (by first | (simp; done) | (simp; omega) | omega) _ | refine Ext.trans ?_ (by assumption)))⟩
end Go.Proofs.Ytkkomdghilmnaaa
