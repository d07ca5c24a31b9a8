/- Contracts: NarrowAll. -/
import Derived.Test.YtfajmlkiidnhlaaGreatQ3Nx
import Derived.Test.YtfajmlkiidnhlaaGreatQ3Na
import Derived.Deep.RegionLaw
namespace Go.Proofs.YtfajmlkiidnhlaaGreat
set_option linter.unusedVariables false
set_option linter.unusedSimpArgs false
open Go.RowKit
attribute [local go_sem] cell_onto

def NewNet3 (m : Net) (x c : Int) (w : World) (e : Ending) (w' : World) : Prop := ∃ s k, e = .returned (.tuple #[.agg #[s, k], .int .i64 x, .int .i64 c]) ∧ Ext w w' ∧ OwnNet w' w.heap.size w'.heap.size (.agg #[s, k]) m
theorem NetS.fin3 {T : TypeId} {n : Net} {w w' : World} {lo a b r : Nat} {s k : Value} (x c : Int) (hx : Ext w w') (hr : w.heap.size ≤ r) (hlo : r < lo) (h : NetS T w' lo a b s k n) :
    NewNet3 n x c w (.returned (.tuple #[.agg #[s, k], .int .i64 x, .int .i64 c])) ((w'.setCell ⟨r, 0, none⟩ s).setCell ⟨r, 1, none⟩ k) := by
  obtain ⟨s', k', e, h1, h2⟩ := NetS.fin2 c hx hr hlo h
  injection e with e
  injection e with e
  have e := congrArg (fun z => z[0]?) e
  simp at e
  obtain ⟨rfl, rfl⟩ := e
  exact ⟨s, k, rfl, h1, h2⟩
theorem Lib.nil3 {w w' : World} {r : Nat} (x c : Int) {m : Net} (hm : m = ⟨[], []⟩) (hx : Ext w w') (hr : w.heap.size ≤ r) :
    NewNet3 m x c w (.returned (.tuple #[.agg #[.slice none 0 0, .slice none 0 0], .int .i64 x, .int .i64 c])) ((w'.setCell ⟨r, 0, none⟩ (.slice none 0 0)).setCell ⟨r, 1, none⟩ (.slice none 0 0)) := by
  obtain ⟨s', k', e, h1, h2⟩ := Lib.nil2 c hm hx hr
  injection e with e
  injection e with e
  have e := congrArg (fun z => z[0]?) e
  simp at e
  obtain ⟨rfl, rfl⟩ := e
  exact ⟨_, _, rfl, h1, h2⟩
theorem NewNet3.nil {w w' : World} (x c : Int) {m : Net} (hm : m = ⟨[], []⟩) (hx : Ext w w') : NewNet3 m x c w (.returned (.tuple #[.agg #[.slice none 0 0, .slice none 0 0], .int .i64 x, .int .i64 c])) w' := by
  subst hm
  obtain ⟨s', k', e, h1, h2⟩ := NewNet2.nil c hx
  injection e with e
  injection e with e
  have e := congrArg (fun z => z[0]?) e
  simp at e
  obtain ⟨rfl, rfl⟩ := e
  exact ⟨_, _, rfl, h1, h2⟩
/-- the state of the loop: the result's box r, the network's box p -/
def NaSt (T : TypeId) (n : Net) (w : World) (lo r p j : Nat) (wr : World) : Prop :=
  ∃ (a b : Nat) (A A' : Option Addr) (c c' : Nat), Ext w wr ∧ Boxed wr r [.slice none 0 0, .slice none 0 0] ∧ Boxed wr p [.slice A (itR n j).sets.length c, .slice A' (itR n j).links.length c'] ∧ NetS T wr lo a b (.slice A (itR n j).sets.length c) (.slice A' (itR n j).links.length c') (itR n j) ∧ Goes n j
set_option maxRecDepth 100000 in
set_option maxHeartbeats 8000000 in
theorem impl_NarrowAll (s k : Value) (n : Net) (w : World) (h : NetIn w s k n) : Calls Tryz.prog 17 #[.agg #[s, k]] w (NewNet3 (naV n) (naC n) (naE n) w) := by
  obtain ⟨As, c0, rfl, hns0, hcs0⟩ := h.1.len
  obtain ⟨Ar, c1, rfl, hnk0, hck0⟩ := h.2.len
  have H := Lib.hid h
  clear h
  go_enter Tryz.func17, Tryz.ntmps17
  go_wp2_with fail
  refine Calls.mono (impl_IsNetwork _ _ n _ (H.out.up (by repeat (first | exact Ext.refl _ | assumption | refine Ext.alloc ?_ _ | refine Ext.drew ?_ | refine Ext.drewN ?_ _ | refine Ext.setCell ?_ (by first | (simp; done) | (simp; omega) | omega) _ | refine Ext.trans ?_ (by assumption))))) ?_
  rintro e w1 ⟨rfl, hx1⟩
  have hx : Ext w w1 := (by repeat (first | exact Ext.refl _ | assumption | refine Ext.alloc ?_ _ | refine Ext.drew ?_ | refine Ext.drewN ?_ _ | refine Ext.setCell ?_ (by first | (simp; done) | (simp; omega) | omega) _ | refine Ext.trans ?_ (by assumption)))
  have Hnb := Lib.hid (((Boxed.new w [.slice As n.sets.length c0, .slice Ar n.links.length c1] 27).ext ((Ext.refl _).alloc (.cells #[.slice none 0 0, .slice none 0 0] 27))).ext hx1)
  have Hrb : Hid (Boxed w1 (w.heap.size + 1) [.slice none 0 0, .slice none 0 0]) := Lib.hid
    (by
      have := (Boxed.new (w.alloc (.cells #[.slice As n.sets.length c0, .slice Ar n.links.length c1] 27)) [.slice none 0 0, .slice none 0 0] 27).ext hx1
      rwa [World.size_alloc] at this)
  have hr1 := Hrb.out.1
  clear hx1
  by_cases hok : NetOk n
  · have Hok := Lib.hid hok
    rw [B_true hok]
    clear hok
    have hb := Hnb.out; have hb0 := hb.at0; have hb1 := hb.at1; have hbg := hb.1; have Hhb := Lib.hid hb; clear hb
    go_wp2_with fail
    refine Calls.mono (impl_ownNetwork _ _ n _ (H.out.up hx) Hok.out.small) ?_
    rintro e w2 hnew
    obtain ⟨Ao, co, Aq, cq, a, b, rfl, hx2, hS2⟩ := NetS.of2 hnew
    have hxb : Ext w2 (w2.alloc (.cells #[.slice Ao n.sets.length co, .slice Aq n.links.length cq] 27)) := (by repeat (first | exact Ext.refl _ | assumption | refine Ext.alloc ?_ _ | refine Ext.drew ?_ | refine Ext.drewN ?_ _ | refine Ext.setCell ?_ (by first | (simp; done) | (simp; omega) | omega) _ | refine Ext.trans ?_ (by assumption)))
    have hz2 := hx2.size
    have Hst : Hid (NaSt 98 n w w1.heap.size (w.heap.size + 1) w2.heap.size 0 (w2.alloc (.cells #[.slice Ao n.sets.length co, .slice Aq n.links.length cq] 27))) :=
      Lib.hid ⟨a, b, Ao, Aq, co, cq, (hx.trans hx2).trans hxb, (Hrb.out.ext hx2).ext hxb, Boxed.new w2 _ _, hS2.ext hxb, Goes.zero n⟩
    clear hnew hx2 hS2 hxb hb0 hb1 hbg Hhb Hnb Hrb
    go_wp2_with fail
    go_loopg [6, 7, 8, 9] 201 (fun q i u7 u8 u9 wr => ∃ j : Nat, j + q = 201 ∧ i = .int .i64 j ∧ Hid (NaSt 98 n w w1.heap.size (w.heap.size + 1) w2.heap.size j wr))
    case atStart => exact ⟨0, by omega, rfl, Hst⟩
    clear Hst
    case round =>
      obtain ⟨j, hj, rfl, Hst⟩ := hrel
      obtain ⟨a1, b1, A, A', c, c', hxr, hrb, hob, hS, hgo⟩ := Hst.out
      have HS := Lib.hid hS
      have Hrb := Lib.hid hrb
      have Hob := Lib.hid hob
      have Hgo := Lib.hid hgo
      have Hx := Lib.hid hxr
      have Hd := Lib.hid (itR_ok Hok.out.d j)
      have hbz := hob.1
      clear hrb hob hS hgo Hst
      by_cases hlt : j ≤ 200
      · have T1 : decide ((j : Int) ≤ 200) = true := decide_eq_true (by omega)
        have ob := Hob.out; have ob0 := ob.at0; have ob1 := ob.at1; have obg := ob.1; have Hob := Lib.hid ob; clear ob
        go_wp2_with fail
        refine Calls.mono (impl_ownNetwork _ _ (itR n j) _ HS.out.netIn Hd.out.1.small) ?_
        rintro e w3 hnew
        obtain ⟨Ap, cp, Aq', cq', a2, b2, rfl, hx3, hS3⟩ := NetS.of2 hnew
        have hxb3 : Ext w3 (w3.alloc (.cells #[.slice Ap (itR n j).sets.length cp, .slice Aq' (itR n j).links.length cq'] 27)) := (by repeat (first | exact Ext.refl _ | assumption | refine Ext.alloc ?_ _ | refine Ext.drew ?_ | refine Ext.drewN ?_ _ | refine Ext.setCell ?_ (by first | (simp; done) | (simp; omega) | omega) _ | refine Ext.trans ?_ (by assumption)))
        have hz3 := hx3.size
        have hbw := hS3.bw
        have hla := hS3.la
        have HS3 := Lib.hid (hS3.ext hxb3)
        have Hnx := Lib.hid (Boxed.new w3 [.slice Ap (itR n j).sets.length cp, .slice Aq' (itR n j).links.length cq'] 27)
        have hx34 := hx3.trans hxb3
        have Hob3 := Lib.hid (Hob.out.ext hx34)
        have Hrb3 := Lib.hid (Hrb.out.ext hx34)
        have HSo := Lib.hid (HS.out.ext hx34)
        have Hx3 := Lib.hid (Hx.out.trans hx34)
        have hbw1 := HS.out.bw
        have hab1 := HS.out.ab
        clear hnew hx3 hS3 hxb3 ob0 ob1 obg hx34
        go_wp2_with fail
        refine Calls.mono (impl_narrowRound _ _ (itR n j) wr.heap.size a2 b2 _ HS3.out Hd.out.1) ?_
        rintro e w4 ⟨rfl, hO, hS4⟩
        have hx4 := Hx3.out.off hO (fun x hx hh => by have := hh.1; have := Hx.out.size; omega)
        have Hx4 := Lib.hid hx4
        have HS4 := Lib.hid (show NetS 98 w4 wr.heap.size a2 w4.heap.size _ _ (itR n (j + 1)) from hS4)
        have HSo4 := Lib.hid (HSo.out.off hO (fun x hh => by
          by_cases e : x < a1
          · refine .inl ⟨e, fun h2 => ?_⟩
            have := (HS.out.links.lt _ h2).2
            have := hh.1
            omega
          · exact .inr (by have := hh.1; omega)))
        have Hrb4 := Lib.hid (Hrb3.out.off hO (fun hh => by have := hh.1; have := Hx.out.size; omega))
        have Hob4 := Lib.hid (Hob3.out.off hO (fun hh => by have := hh.1; omega))
        have Hnx4 := Lib.hid (Hnx.out.off hO (fun hh => by have := hh.2; omega))
        have hls : (itR n (j + 1)).sets.length = (itR n j).sets.length := (narR_ok Hd.out.1).2.ns
        have hll : (itR n (j + 1)).links.length = (itR n j).links.length := by rw [show itR n (j + 1) = narR (itR n j) from rfl, (narR_ok Hd.out.1).2.lk]
        have Hls := Lib.hid hls
        have Hll := Lib.hid hll
        clear hO hS4 hx4 Hrb3 Hob3 Hnx Hx3 HSo HS3 hls hll
        have ob := Hob4.out; have ob0 := ob.at0; have ob1 := ob.at1; have obg := ob.1; have Hob := Lib.hid ob; clear ob
        have nx := Hnx4.out; have nx0 := nx.at0; have nx1 := nx.at1; have nxg := nx.1; have Hnx := Lib.hid nx; clear nx
        go_wp2_with fail
        refine Calls.mono (impl_sameSets _ _ _ _ (itR n j) (itR n (j + 1)) _ HSo4.out.netIn HS4.out.netIn) ?_
        rintro e w5 ⟨rfl, hx5⟩
        clear ob0 ob1 obg nx0 nx1 nxg
        by_cases hf : Fix (itR n j)
        · have Hs := Lib.hid (na_yes Hok.out (show Stops n j from ⟨hlt, Hgo.out, hf⟩))
          rw [B_true (show (itR n j).sets = (itR n (j + 1)).sets from hf.symm)]
          clear hf
          have xb := Hob4.out.ext hx5; have xb0 := xb.at0; have xb1 := xb.at1; have xbg := xb.1; have Hxb := Lib.hid xb; clear xb
          have rb := Hrb4.out.ext hx5; have rb0 := rb.at0; have rb1 := rb.at1; have rbg := rb.1; have Hrb := Lib.hid rb; clear rb
          have rf0 := Hrb.out.fz 0 (by simp)
          have rf1 := Hrb.out.fz 1 (by simp)
          go_wp2_with fail
          refine bodyPost_ret (v := .tuple #[.agg #[.slice A (itR n j).sets.length c, .slice A' (itR n j).links.length c'], .int .i64 j, .int .i64 0]) (by simp [results, Tryz.results17, go_sem, *]) rfl ?_
          rw [Hs.out.1, Hs.out.2.1, Hs.out.2.2]
          exact NetS.fin3 j 0 (Hx4.out.trans hx5) (by omega) (by omega) (HSo4.out.ext hx5)
        · have Hf := Lib.hid hf
          rw [B_false (show ¬ (itR n j).sets = (itR n (j + 1)).sets from fun hh => hf hh.symm)]
          clear hf
          by_cases hl : Lim (itR n (j + 1))
          · have Hl := Lib.hid hl
            clear hl
            have nx := Hnx4.out.ext hx5; have nx0 := nx.at0; have nx1 := nx.at1; have nxg := nx.1; have Hnx := Lib.hid nx; clear nx
            go_wp2_with fail
            refine Calls.mono (impl_limitedNetwork_yes _ _ (itR n (j + 1)) _ (HS4.out.netIn.up hx5) Hl.out) ?_
            rintro e w6 ⟨rfl, hx6⟩
            clear nx0 nx1 nxg Hnx
            have nx := Hnx4.out.ext (hx5.trans hx6); have nx0 := nx.at0; have nx1 := nx.at1; have nxg := nx.1; have Hnx := Lib.hid nx; clear nx
            have ob := Hob4.out.ext (hx5.trans hx6); have ob0 := ob.at0; have ob1 := ob.at1; have obg := ob.1; have Hob := Lib.hid ob; clear ob
            have of0 := Hob.out.fz 0 (by simp)
            have of1 := Hob.out.fz 1 (by simp)
            have hx46 := hx5.trans hx6
            have Hfin : Hid (NaSt 98 n w w1.heap.size (w.heap.size + 1) w2.heap.size (j + 1) (((w6.setCell ⟨w2.heap.size, 0, none⟩ (.slice Ap (itR n j).sets.length cp)).setCell ⟨w2.heap.size, 1, none⟩ (.slice Aq' (itR n j).links.length cq')).alloc (.cells #[.slice Ap (itR n j).sets.length cp, .slice Aq' (itR n j).links.length cq'] 27))) :=
              Lib.hid (by
                have hxa : ∀ W : World, Ext W (W.alloc (.cells #[.slice Ap (itR n j).sets.length cp, .slice Aq' (itR n j).links.length cq'] 27)) := fun W => (by repeat (first | exact Ext.refl _ | assumption | refine Ext.alloc ?_ _ | refine Ext.drew ?_ | refine Ext.drewN ?_ _ | refine Ext.setCell ?_ (by first | (simp; done) | (simp; omega) | omega) _ | refine Ext.trans ?_ (by assumption)))
                refine ⟨a2, w4.heap.size, Ap, Aq', cp, cq', ((Hx4.out.trans hx46).stored (by omega)).trans (hxa _), ((Hrb4.out.ext hx46).off (off_two _ _ _ _) (by omega)).ext (hxa _), ?_, ?_, Hgo.out.step Hf.out Hl.out⟩
                · rw [Hls.out, Hll.out]
                  exact (((Hob4.out.ext hx46).set 0 _ (by simp)).set 1 _ (by simp)).ext (hxa _)
                · rw [Hls.out, Hll.out]
                  exact (((HS4.out.ext hx46).stored (by omega)).ext (hxa _)).mono (by omega))
            clear hx46 hx5 hx6
            go_wp2_with fail
            go_roundg (201 - (j + 1))
            case measure => omega
            case rel => exact ⟨j + 1, by omega, by go_num, Hfin⟩
          · have Hs := Lib.hid (na_no Hok.out (Hgo.out.wide Hf.out hl))
            have Hl := Lib.hid hl
            clear hl
            have nx := Hnx4.out.ext hx5; have nx0 := nx.at0; have nx1 := nx.at1; have nxg := nx.1; have Hnx := Lib.hid nx; clear nx
            go_wp2_with fail
            refine Calls.mono (impl_limitedNetwork_no _ _ (itR n (j + 1)) _ (HS4.out.netIn.up hx5) Hl.out) ?_
            rintro e w6 ⟨rfl, hx6⟩
            clear nx0 nx1 nxg Hnx
            have rb := Hrb4.out.ext (hx5.trans hx6); have rb0 := rb.at0; have rb1 := rb.at1; have rbg := rb.1; have Hrb := Lib.hid rb; clear rb
            have rf0 := Hrb.out.fz 0 (by simp)
            have rf1 := Hrb.out.fz 1 (by simp)
            go_wp2_with fail
            refine bodyPost_ret (v := .tuple #[.agg #[.slice none 0 0, .slice none 0 0], .int .i64 0, .int .i64 3]) (by simp [results, Tryz.results17, go_sem, *]) rfl ?_
            rw [Hs.out.2.1, Hs.out.2.2]
            exact NewNet3.nil 0 3 Hs.out.1 ((((Hx4.out.trans hx5).trans hx6).stored (show w.heap.size ≤ w.heap.size + 1 by omega)).trans (by repeat (first | exact Ext.refl _ | assumption | refine Ext.alloc ?_ _ | refine Ext.drew ?_ | refine Ext.drewN ?_ _ | refine Ext.setCell ?_ (by first | (simp; done) | (simp; omega) | omega) _ | refine Ext.trans ?_ (by assumption))))
      · obtain rfl : j = 201 := by omega
        have T1 : decide (((201 : Nat) : Int) ≤ 200) = false := decide_eq_false (by omega)
        have rb := Hrb.out; have rb0 := rb.at0; have rb1 := rb.at1; have rbg := rb.1; have Hrb := Lib.hid rb; clear rb
        have rf0 := Hrb.out.fz 0 (by simp)
        have rf1 := Hrb.out.fz 1 (by simp)
        have hno := Lib.hid (na_no Hok.out Hgo.out.end_)
        go_wp2_with fail
        refine bodyPost_ret (v := .tuple #[.agg #[.slice none 0 0, .slice none 0 0], .int .i64 0, .int .i64 3]) (by simp [results, Tryz.results17, go_sem, *]) rfl ?_
        rw [hno.out.2.1, hno.out.2.2]
        exact Lib.nil3 0 3 hno.out.1 hxr (by omega)
  · have Hok := Lib.hid hok
    rw [B_false hok]
    clear hok
    have rb := Hrb.out; have rb0 := rb.at0; have rb1 := rb.at1; have rbg := rb.1; have Hrb := Lib.hid rb; clear rb
    have rf0 := Hrb.out.fz 0 (by simp)
    have rf1 := Hrb.out.fz 1 (by simp)
    go_wp2_with fail
    refine bodyPost_ret (v := .tuple #[.agg #[.slice none 0 0, .slice none 0 0], .int .i64 0, .int .i64 1]) (by simp [results, Tryz.results17, go_sem, *]) rfl ?_
    rw [(na_inv Hok.out).2.1, (na_inv Hok.out).2.2]
    exact Lib.nil3 0 1 (na_inv Hok.out).1 hx (by omega)
def AllPost (T : TypeId) (n : Net) (w : World) (e : Ending) (w' : World) : Prop :=
  ∃ (A A' : Option Addr) (c c' a b : Nat) (x : Int) (o : Bool) (m : Net), e = .returned (.tuple #[.agg #[.slice A m.sets.length c, .slice A' m.links.length c'], .int .i64 x, .bool o]) ∧ Ext w w' ∧ NetS T w' w.heap.size a b (.slice A m.sets.length c) (.slice A' m.links.length c') m ∧
    ((o = true ∧ ∃ j, Stops n j ∧ m = itR n j ∧ x = j) ∨ (o = false ∧ ¬ ∃ j, Stops n j))
end Go.Proofs.YtfajmlkiidnhlaaGreat
