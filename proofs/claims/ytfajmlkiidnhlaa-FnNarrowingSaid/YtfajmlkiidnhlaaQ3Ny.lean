/- Texts merged (a claim holds at most sixty files): Ny, Is. -/
import Derived.Test.YtfajmlkiidnhlaaQ3Nx
import Derived.Test.YtfajmlkiidnhlaaQ3Sm
import Derived.Deep.RegionLaw
import Derived.Test.YtfajmlkiidnhlaaQ3Lm
/- Contracts: NarrowAll. -/
namespace Go.Proofs.Ytfajmlkiidnhlaa
set_option linter.unusedVariables false
set_option linter.unusedSimpArgs false
open Go.RowKit
attribute [local go_sem] cell_onto

def NewNet3 (m : Net) (x c : Int) (w : World) (e : Ending) (w' : World) : Prop := ∃ s k, e = .returned (.tuple #[.agg #[s, k], .int .i64 x, .int .i64 c]) ∧ Ext w w' ∧ OwnNet w' w.heap.size w'.heap.size (.agg #[s, k]) m
theorem NetS.fin3 {T : TypeId} {n : Net} {w w' : World} {lo a b r : Nat} {s k : Value} (x c : Int) (hx : Ext w w') (hr : w.heap.size ≤ r) (hlo : r < lo) (h : NetS T w' lo a b s k n) :
    NewNet3 n x c w (.returned (.tuple #[.agg #[s, k], .int .i64 x, .int .i64 c])) ((w'.setCell ⟨r, 0, none⟩ s).setCell ⟨r, 1, none⟩ k) := by
  obtain ⟨s', k', e, h1, h2⟩ := NetS.fin2 c hx hr hlo h
  injection e with e
  injection e with e
  have e := congrArg (fun z => z[0]?) e
  simp at e
  obtain ⟨rfl, rfl⟩ := e
  exact ⟨s, k, rfl, h1, h2⟩
theorem Lib.nil3 {w w' : World} {r : Nat} (x c : Int) {m : Net} (hm : m = ⟨[], []⟩) (hx : Ext w w') (hr : w.heap.size ≤ r) :
    NewNet3 m x c w (.returned (.tuple #[.agg #[.slice none 0 0, .slice none 0 0], .int .i64 x, .int .i64 c])) ((w'.setCell ⟨r, 0, none⟩ (.slice none 0 0)).setCell ⟨r, 1, none⟩ (.slice none 0 0)) := by
  obtain ⟨s', k', e, h1, h2⟩ := Lib.nil2 c hm hx hr
  injection e with e
  injection e with e
  have e := congrArg (fun z => z[0]?) e
  simp at e
  obtain ⟨rfl, rfl⟩ := e
  exact ⟨_, _, rfl, h1, h2⟩
theorem NewNet3.nil {w w' : World} (x c : Int) {m : Net} (hm : m = ⟨[], []⟩) (hx : Ext w w') : NewNet3 m x c w (.returned (.tuple #[.agg #[.slice none 0 0, .slice none 0 0], .int .i64 x, .int .i64 c])) w' := by
  subst hm
  obtain ⟨s', k', e, h1, h2⟩ := NewNet2.nil c hx
  injection e with e
  injection e with e
  have e := congrArg (fun z => z[0]?) e
  simp at e
  obtain ⟨rfl, rfl⟩ := e
  exact ⟨_, _, rfl, h1, h2⟩
/-- the state of the loop: the result's box r, the network's box p -/
def NaSt (T : TypeId) (n : Net) (w : World) (lo r p j : Nat) (wr : World) : Prop :=
  ∃ (a b : Nat) (A A' : Option Addr) (c c' : Nat), Ext w wr ∧ Boxed wr r [.slice none 0 0, .slice none 0 0] ∧ Boxed wr p [.slice A (itR n j).sets.length c, .slice A' (itR n j).links.length c'] ∧ NetS T wr lo a b (.slice A (itR n j).sets.length c) (.slice A' (itR n j).links.length c') (itR n j) ∧ Goes n j
set_option maxRecDepth 100000 in
set_option maxHeartbeats 8000000 in
theorem impl_NarrowAll (s k : Value) (n : Net) (w : World) (h : NetIn w s k n) : Calls Try.prog 61 #[.agg #[s, k]] w (NewNet3 (naV n) (naC n) (naE n) w) := by
  obtain ⟨As, c0, rfl, hns0, hcs0⟩ := h.1.len
  obtain ⟨Ar, c1, rfl, hnk0, hck0⟩ := h.2.len
  have H := Lib.hid h
  clear h
  go_enter Try.func61, Try.ntmps61
  go_wp2_with fail
  refine Calls.mono (impl_IsNetwork _ _ n _ (H.out.up (by repeat (first | exact Ext.refl _ | assumption | refine Ext.alloc ?_ _ | refine Ext.drew ?_ | refine Ext.drewN ?_ _ | refine Ext.setCell ?_ (by first | (simp; done) | (simp; omega) | omega) _ | refine Ext.trans ?_ (by assumption))))) ?_
  rintro e w1 ⟨rfl, hx1⟩
  have hx : Ext w w1 := (by repeat (first | exact Ext.refl _ | assumption | refine Ext.alloc ?_ _ | refine Ext.drew ?_ | refine Ext.drewN ?_ _ | refine Ext.setCell ?_ (by first | (simp; done) | (simp; omega) | omega) _ | refine Ext.trans ?_ (by assumption)))
  have Hnb := Lib.hid (((Boxed.new w [.slice As n.sets.length c0, .slice Ar n.links.length c1] 27).ext ((Ext.refl _).alloc (.cells #[.slice none 0 0, .slice none 0 0] 27))).ext hx1)
  have Hrb : Hid (Boxed w1 (w.heap.size + 1) [.slice none 0 0, .slice none 0 0]) := Lib.hid
    (by
      have := (Boxed.new (w.alloc (.cells #[.slice As n.sets.length c0, .slice Ar n.links.length c1] 27)) [.slice none 0 0, .slice none 0 0] 27).ext hx1
      rwa [World.size_alloc] at this)
  have hr1 := Hrb.out.1
  clear hx1
  by_cases hok : NetOk n
  · have Hok := Lib.hid hok
    rw [B_true hok]
    clear hok
    have hb := Hnb.out; have hb0 := hb.at0; have hb1 := hb.at1; have hbg := hb.1; have Hhb := Lib.hid hb; clear hb
    go_wp2_with fail
    refine Calls.mono (impl_ownNetwork _ _ n _ (H.out.up hx) Hok.out.small) ?_
    rintro e w2 hnew
    obtain ⟨Ao, co, Aq, cq, a, b, rfl, hx2, hS2⟩ := NetS.of2 hnew
    have hxb : Ext w2 (w2.alloc (.cells #[.slice Ao n.sets.length co, .slice Aq n.links.length cq] 27)) := (by repeat (first | exact Ext.refl _ | assumption | refine Ext.alloc ?_ _ | refine Ext.drew ?_ | refine Ext.drewN ?_ _ | refine Ext.setCell ?_ (by first | (simp; done) | (simp; omega) | omega) _ | refine Ext.trans ?_ (by assumption)))
    have hz2 := hx2.size
    have Hst : Hid (NaSt 60 n w w1.heap.size (w.heap.size + 1) w2.heap.size 0 (w2.alloc (.cells #[.slice Ao n.sets.length co, .slice Aq n.links.length cq] 27))) :=
      Lib.hid ⟨a, b, Ao, Aq, co, cq, (hx.trans hx2).trans hxb, (Hrb.out.ext hx2).ext hxb, Boxed.new w2 _ _, hS2.ext hxb, Goes.zero n⟩
    clear hnew hx2 hS2 hxb hb0 hb1 hbg Hhb Hnb Hrb
    go_wp2_with fail
    go_loopg [6, 7, 8, 9] 201 (fun q i u7 u8 u9 wr => ∃ j : Nat, j + q = 201 ∧ i = .int .i64 j ∧ Hid (NaSt 60 n w w1.heap.size (w.heap.size + 1) w2.heap.size j wr))
    case atStart => exact ⟨0, by omega, rfl, Hst⟩
    clear Hst
    case round =>
      obtain ⟨j, hj, rfl, Hst⟩ := hrel
      obtain ⟨a1, b1, A, A', c, c', hxr, hrb, hob, hS, hgo⟩ := Hst.out
      have HS := Lib.hid hS
      have Hrb := Lib.hid hrb
      have Hob := Lib.hid hob
      have Hgo := Lib.hid hgo
      have Hx := Lib.hid hxr
      have Hd := Lib.hid (itR_ok Hok.out.d j)
      have hbz := hob.1
      clear hrb hob hS hgo Hst
      by_cases hlt : j ≤ 200
      · have T1 : decide ((j : Int) ≤ 200) = true := decide_eq_true (by omega)
        have ob := Hob.out; have ob0 := ob.at0; have ob1 := ob.at1; have obg := ob.1; have Hob := Lib.hid ob; clear ob
        go_wp2_with fail
        refine Calls.mono (impl_ownNetwork _ _ (itR n j) _ HS.out.netIn Hd.out.1.small) ?_
        rintro e w3 hnew
        obtain ⟨Ap, cp, Aq', cq', a2, b2, rfl, hx3, hS3⟩ := NetS.of2 hnew
        have hxb3 : Ext w3 (w3.alloc (.cells #[.slice Ap (itR n j).sets.length cp, .slice Aq' (itR n j).links.length cq'] 27)) := (by repeat (first | exact Ext.refl _ | assumption | refine Ext.alloc ?_ _ | refine Ext.drew ?_ | refine Ext.drewN ?_ _ | refine Ext.setCell ?_ (by first | (simp; done) | (simp; omega) | omega) _ | refine Ext.trans ?_ (by assumption)))
        have hz3 := hx3.size
        have hbw := hS3.bw
        have hla := hS3.la
        have HS3 := Lib.hid (hS3.ext hxb3)
        have Hnx := Lib.hid (Boxed.new w3 [.slice Ap (itR n j).sets.length cp, .slice Aq' (itR n j).links.length cq'] 27)
        have hx34 := hx3.trans hxb3
        have Hob3 := Lib.hid (Hob.out.ext hx34)
        have Hrb3 := Lib.hid (Hrb.out.ext hx34)
        have HSo := Lib.hid (HS.out.ext hx34)
        have Hx3 := Lib.hid (Hx.out.trans hx34)
        have hbw1 := HS.out.bw
        have hab1 := HS.out.ab
        clear hnew hx3 hS3 hxb3 ob0 ob1 obg hx34
        go_wp2_with fail
        refine Calls.mono (impl_narrowRound _ _ (itR n j) wr.heap.size a2 b2 _ HS3.out Hd.out.1) ?_
        rintro e w4 ⟨rfl, hO, hS4⟩
        have hx4 := Hx3.out.off hO (fun x hx hh => by have := hh.1; have := Hx.out.size; omega)
        have Hx4 := Lib.hid hx4
        have HS4 := Lib.hid (show NetS 60 w4 wr.heap.size a2 w4.heap.size _ _ (itR n (j + 1)) from hS4)
        have HSo4 := Lib.hid (HSo.out.off hO (fun x hh => by
          by_cases e : x < a1
          · refine .inl ⟨e, fun h2 => ?_⟩
            have := (HS.out.links.lt _ h2).2
            have := hh.1
            omega
          · exact .inr (by have := hh.1; omega)))
        have Hrb4 := Lib.hid (Hrb3.out.off hO (fun hh => by have := hh.1; have := Hx.out.size; omega))
        have Hob4 := Lib.hid (Hob3.out.off hO (fun hh => by have := hh.1; omega))
        have Hnx4 := Lib.hid (Hnx.out.off hO (fun hh => by have := hh.2; omega))
        have hls : (itR n (j + 1)).sets.length = (itR n j).sets.length := (narR_ok Hd.out.1).2.ns
        have hll : (itR n (j + 1)).links.length = (itR n j).links.length := by rw [show itR n (j + 1) = narR (itR n j) from rfl, (narR_ok Hd.out.1).2.lk]
        have Hls := Lib.hid hls
        have Hll := Lib.hid hll
        clear hO hS4 hx4 Hrb3 Hob3 Hnx Hx3 HSo HS3 hls hll
        have ob := Hob4.out; have ob0 := ob.at0; have ob1 := ob.at1; have obg := ob.1; have Hob := Lib.hid ob; clear ob
        have nx := Hnx4.out; have nx0 := nx.at0; have nx1 := nx.at1; have nxg := nx.1; have Hnx := Lib.hid nx; clear nx
        go_wp2_with fail
        refine Calls.mono (impl_sameSets _ _ _ _ (itR n j) (itR n (j + 1)) _ HSo4.out.netIn HS4.out.netIn) ?_
        rintro e w5 ⟨rfl, hx5⟩
        clear ob0 ob1 obg nx0 nx1 nxg
        by_cases hf : Fix (itR n j)
        · have Hs := Lib.hid (na_yes Hok.out (show Stops n j from ⟨hlt, Hgo.out, hf⟩))
          rw [B_true (show (itR n j).sets = (itR n (j + 1)).sets from hf.symm)]
          clear hf
          have xb := Hob4.out.ext hx5; have xb0 := xb.at0; have xb1 := xb.at1; have xbg := xb.1; have Hxb := Lib.hid xb; clear xb
          have rb := Hrb4.out.ext hx5; have rb0 := rb.at0; have rb1 := rb.at1; have rbg := rb.1; have Hrb := Lib.hid rb; clear rb
          have rf0 := Hrb.out.fz 0 (by simp)
          have rf1 := Hrb.out.fz 1 (by simp)
          go_wp2_with fail
          refine bodyPost_ret (v := .tuple #[.agg #[.slice A (itR n j).sets.length c, .slice A' (itR n j).links.length c'], .int .i64 j, .int .i64 0]) (by simp [results, Try.results61, go_sem, *]) rfl ?_
          rw [Hs.out.1, Hs.out.2.1, Hs.out.2.2]
          exact NetS.fin3 j 0 (Hx4.out.trans hx5) (by omega) (by omega) (HSo4.out.ext hx5)
        · have Hf := Lib.hid hf
          rw [B_false (show ¬ (itR n j).sets = (itR n (j + 1)).sets from fun hh => hf hh.symm)]
          clear hf
          by_cases hl : Lim (itR n (j + 1))
          · have Hl := Lib.hid hl
            clear hl
            have nx := Hnx4.out.ext hx5; have nx0 := nx.at0; have nx1 := nx.at1; have nxg := nx.1; have Hnx := Lib.hid nx; clear nx
            go_wp2_with fail
            refine Calls.mono (impl_limitedNetwork_yes _ _ (itR n (j + 1)) _ (HS4.out.netIn.up hx5) Hl.out) ?_
            rintro e w6 ⟨rfl, hx6⟩
            clear nx0 nx1 nxg Hnx
            have nx := Hnx4.out.ext (hx5.trans hx6); have nx0 := nx.at0; have nx1 := nx.at1; have nxg := nx.1; have Hnx := Lib.hid nx; clear nx
            have ob := Hob4.out.ext (hx5.trans hx6); have ob0 := ob.at0; have ob1 := ob.at1; have obg := ob.1; have Hob := Lib.hid ob; clear ob
            have of0 := Hob.out.fz 0 (by simp)
            have of1 := Hob.out.fz 1 (by simp)
            have hx46 := hx5.trans hx6
            have Hfin : Hid (NaSt 60 n w w1.heap.size (w.heap.size + 1) w2.heap.size (j + 1) (((w6.setCell ⟨w2.heap.size, 0, none⟩ (.slice Ap (itR n j).sets.length cp)).setCell ⟨w2.heap.size, 1, none⟩ (.slice Aq' (itR n j).links.length cq')).alloc (.cells #[.slice Ap (itR n j).sets.length cp, .slice Aq' (itR n j).links.length cq'] 27))) :=
              Lib.hid (by
                have hxa : ∀ W : World, Ext W (W.alloc (.cells #[.slice Ap (itR n j).sets.length cp, .slice Aq' (itR n j).links.length cq'] 27)) := fun W => (by repeat (first | exact Ext.refl _ | assumption | refine Ext.alloc ?_ _ | refine Ext.drew ?_ | refine Ext.drewN ?_ _ | refine Ext.setCell ?_ (by first | (simp; done) | (simp; omega) | omega) _ | refine Ext.trans ?_ (by assumption)))
                refine ⟨a2, w4.heap.size, Ap, Aq', cp, cq', ((Hx4.out.trans hx46).stored (by omega)).trans (hxa _), ((Hrb4.out.ext hx46).off (off_two _ _ _ _) (by omega)).ext (hxa _), ?_, ?_, Hgo.out.step Hf.out Hl.out⟩
                · rw [Hls.out, Hll.out]
                  exact (((Hob4.out.ext hx46).set 0 _ (by simp)).set 1 _ (by simp)).ext (hxa _)
                · rw [Hls.out, Hll.out]
                  exact (((HS4.out.ext hx46).stored (by omega)).ext (hxa _)).mono (by omega))
            clear hx46 hx5 hx6
            go_wp2_with fail
            go_roundg (201 - (j + 1))
            case measure => omega
            case rel => exact ⟨j + 1, by omega, by go_num, Hfin⟩
          · have Hs := Lib.hid (na_no Hok.out (Hgo.out.wide Hf.out hl))
            have Hl := Lib.hid hl
            clear hl
            have nx := Hnx4.out.ext hx5; have nx0 := nx.at0; have nx1 := nx.at1; have nxg := nx.1; have Hnx := Lib.hid nx; clear nx
            go_wp2_with fail
            refine Calls.mono (impl_limitedNetwork_no _ _ (itR n (j + 1)) _ (HS4.out.netIn.up hx5) Hl.out) ?_
            rintro e w6 ⟨rfl, hx6⟩
            clear nx0 nx1 nxg Hnx
            have rb := Hrb4.out.ext (hx5.trans hx6); have rb0 := rb.at0; have rb1 := rb.at1; have rbg := rb.1; have Hrb := Lib.hid rb; clear rb
            have rf0 := Hrb.out.fz 0 (by simp)
            have rf1 := Hrb.out.fz 1 (by simp)
            go_wp2_with fail
            refine bodyPost_ret (v := .tuple #[.agg #[.slice none 0 0, .slice none 0 0], .int .i64 0, .int .i64 3]) (by simp [results, Try.results61, go_sem, *]) rfl ?_
            rw [Hs.out.2.1, Hs.out.2.2]
            exact NewNet3.nil 0 3 Hs.out.1 ((((Hx4.out.trans hx5).trans hx6).stored (show w.heap.size ≤ w.heap.size + 1 by omega)).trans (by repeat (first | exact Ext.refl _ | assumption | refine Ext.alloc ?_ _ | refine Ext.drew ?_ | refine Ext.drewN ?_ _ | refine Ext.setCell ?_ (by first | (simp; done) | (simp; omega) | omega) _ | refine Ext.trans ?_ (by assumption))))
      · obtain rfl : j = 201 := by omega
        have T1 : decide (((201 : Nat) : Int) ≤ 200) = false := decide_eq_false (by omega)
        have rb := Hrb.out; have rb0 := rb.at0; have rb1 := rb.at1; have rbg := rb.1; have Hrb := Lib.hid rb; clear rb
        have rf0 := Hrb.out.fz 0 (by simp)
        have rf1 := Hrb.out.fz 1 (by simp)
        have hno := Lib.hid (na_no Hok.out Hgo.out.end_)
        go_wp2_with fail
        refine bodyPost_ret (v := .tuple #[.agg #[.slice none 0 0, .slice none 0 0], .int .i64 0, .int .i64 3]) (by simp [results, Try.results61, go_sem, *]) rfl ?_
        rw [hno.out.2.1, hno.out.2.2]
        exact Lib.nil3 0 3 hno.out.1 hxr (by omega)
  · have Hok := Lib.hid hok
    rw [B_false hok]
    clear hok
    have rb := Hrb.out; have rb0 := rb.at0; have rb1 := rb.at1; have rbg := rb.1; have Hrb := Lib.hid rb; clear rb
    have rf0 := Hrb.out.fz 0 (by simp)
    have rf1 := Hrb.out.fz 1 (by simp)
    go_wp2_with fail
    refine bodyPost_ret (v := .tuple #[.agg #[.slice none 0 0, .slice none 0 0], .int .i64 0, .int .i64 1]) (by simp [results, Try.results61, go_sem, *]) rfl ?_
    rw [(na_inv Hok.out).2.1, (na_inv Hok.out).2.2]
    exact Lib.nil3 0 1 (na_inv Hok.out).1 hx (by omega)
def AllPost (T : TypeId) (n : Net) (w : World) (e : Ending) (w' : World) : Prop :=
  ∃ (A A' : Option Addr) (c c' a b : Nat) (x : Int) (o : Bool) (m : Net), e = .returned (.tuple #[.agg #[.slice A m.sets.length c, .slice A' m.links.length c'], .int .i64 x, .bool o]) ∧ Ext w w' ∧ NetS T w' w.heap.size a b (.slice A m.sets.length c) (.slice A' m.links.length c') m ∧
    ((o = true ∧ ∃ j, Stops n j ∧ m = itR n j ∧ x = j) ∨ (o = false ∧ ¬ ∃ j, Stops n j))
set_option maxRecDepth 100000 in
set_option maxHeartbeats 8000000 in
theorem spec_l19All (s k : Value) (n : Net) (w : World) (h : NetIn w s k n) (hok : NetOk n) : Calls Try.prog 153 #[.agg #[s, k]] w (AllPost 60 n w) := by
  obtain ⟨As, c0, rfl, hns0, hcs0⟩ := h.1.len
  obtain ⟨Ar, c1, rfl, hnk0, hck0⟩ := h.2.len
  have H := Lib.hid h
  have Hok := Lib.hid hok
  clear h hok
  have Hrb0 : Hid (Boxed ((w.alloc (.cells #[.slice As n.sets.length c0, .slice Ar n.links.length c1] 27)).alloc (.cells #[.slice none 0 0, .slice none 0 0] 27)) (w.heap.size + 1) [.slice none 0 0, .slice none 0 0]) := Lib.hid
    (by
      have := Boxed.new (w.alloc (.cells #[.slice As n.sets.length c0, .slice Ar n.links.length c1] 27)) [.slice none 0 0, .slice none 0 0] 27
      rwa [World.size_alloc] at this)
  have hx0 : Ext w ((w.alloc (.cells #[.slice As n.sets.length c0, .slice Ar n.links.length c1] 27)).alloc (.cells #[.slice none 0 0, .slice none 0 0] 27)) := (by repeat (first | exact Ext.refl _ | assumption | refine Ext.alloc ?_ _ | refine Ext.drew ?_ | refine Ext.drewN ?_ _ | refine Ext.setCell ?_ (by first | (simp; done) | (simp; omega) | omega) _ | refine Ext.trans ?_ (by assumption)))
  have Hx0 := Lib.hid hx0
  have hz0 : ((w.alloc (.cells #[.slice As n.sets.length c0, .slice Ar n.links.length c1] 27)).alloc (.cells #[.slice none 0 0, .slice none 0 0] 27)).heap.size = w.heap.size + 1 + 1 := by simp
  obtain ⟨w1, hw1⟩ : ∃ x : World, x = (w.alloc (.cells #[.slice As n.sets.length c0, .slice Ar n.links.length c1] 27)).alloc (.cells #[.slice none 0 0, .slice none 0 0] 27) := ⟨_, rfl⟩
  rw [← hw1] at Hrb0 Hx0 hz0
  have Hw1 := Lib.hid hw1
  clear hw1 hx0
  go_enter Try.func153, Try.ntmps153
  go_wp2_with fail
  rw [← Hw1.out]
  refine Calls.mono (spec_l18Own _ _ n _ (H.out.up Hx0.out) Hok.out.small) ?_
  rintro e w2 hnew
  obtain ⟨Ao, co, Aq, cq, a, b, rfl, hx2, hS2⟩ := NetS.of2 hnew
  have hxb : Ext w2 (w2.alloc (.cells #[.slice Ao n.sets.length co, .slice Aq n.links.length cq] 27)) := (by repeat (first | exact Ext.refl _ | assumption | refine Ext.alloc ?_ _ | refine Ext.drew ?_ | refine Ext.drewN ?_ _ | refine Ext.setCell ?_ (by first | (simp; done) | (simp; omega) | omega) _ | refine Ext.trans ?_ (by assumption)))
  have hz2 := hx2.size
  have Hst : Hid (NaSt 60 n w w1.heap.size (w.heap.size + 1) w2.heap.size 0 (w2.alloc (.cells #[.slice Ao n.sets.length co, .slice Aq n.links.length cq] 27))) :=
    Lib.hid ⟨a, b, Ao, Aq, co, cq, (Hx0.out.trans hx2).trans hxb, (Hrb0.out.ext hx2).ext hxb, Boxed.new w2 _ _, hS2.ext hxb, Goes.zero n⟩
  clear hnew hx2 hS2 hxb Hrb0 Hw1
  have hz1 := Hx0.out.size
  go_wp2_with fail
  go_loopg [6, 7] 201 (fun q i u7 wr => ∃ j : Nat, j + q = 201 ∧ i = .int .i64 j ∧ Hid (NaSt 60 n w w1.heap.size (w.heap.size + 1) w2.heap.size j wr))
  case atStart => exact ⟨0, by omega, rfl, Hst⟩
  clear Hst
  case round =>
    obtain ⟨j, hj, rfl, Hst⟩ := hrel
    obtain ⟨a1, b1, A, A', c, c', hxr, hrb, hob, hS, hgo⟩ := Hst.out
    have HS := Lib.hid hS
    have Hrb := Lib.hid hrb
    have Hob := Lib.hid hob
    have Hgo := Lib.hid hgo
    have Hx := Lib.hid hxr
    have Hd := Lib.hid (itR_ok Hok.out.d j)
    have hbz := hob.1
    clear hrb hob hS hgo Hst
    by_cases hlt : j ≤ 200
    · have T1 : decide ((j : Int) ≤ 200) = true := decide_eq_true (by omega)
      have ob := Hob.out; have ob0 := ob.at0; have ob1 := ob.at1; have obg := ob.1; have Hob := Lib.hid ob; clear ob
      go_wp2_with fail
      refine Calls.mono (spec_l19Round _ _ (itR n j) _ HS.out.netIn Hd.out.1) ?_
      rintro e w3 hnew
      have Hd1 := Lib.hid (itR_ok Hok.out.d (j + 1))
      obtain ⟨Ap, cp, Aq', cq', a2, b2, hee, hx3, hS3⟩ := NetS.of2 hnew
      subst hee
      replace hS3 : NetS 60 w3 wr.heap.size a2 b2 (.slice Ap (itR n (j + 1)).sets.length cp) (.slice Aq' (itR n (j + 1)).links.length cq') (itR n (j + 1)) := hS3
      have hxb3 : Ext w3 (w3.alloc (.cells #[.slice Ap (itR n (j + 1)).sets.length cp, .slice Aq' (itR n (j + 1)).links.length cq'] 27)) := (by repeat (first | exact Ext.refl _ | assumption | refine Ext.alloc ?_ _ | refine Ext.drew ?_ | refine Ext.drewN ?_ _ | refine Ext.setCell ?_ (by first | (simp; done) | (simp; omega) | omega) _ | refine Ext.trans ?_ (by assumption)))
      have hz3 := hx3.size
      have hx34 := hx3.trans hxb3
      have HS4 := Lib.hid (hS3.ext hxb3)
      have Hnx4 := Lib.hid (Boxed.new w3 [.slice Ap (itR n (j + 1)).sets.length cp, .slice Aq' (itR n (j + 1)).links.length cq'] 27)
      have Hob4 := Lib.hid (Hob.out.ext hx34)
      have Hrb4 := Lib.hid (Hrb.out.ext hx34)
      have HSo4 := Lib.hid (HS.out.ext hx34)
      have Hx4 := Lib.hid (Hx.out.trans hx34)
      have Hq := Lib.hid (show (netDays (itR n (j + 1)).sets = netDays (itR n j).sets) ↔ Fix (itR n j) from netDays_eq (narR_ok Hd.out.1).1 Hd.out.1 (narR_ok Hd.out.1).2)
      obtain ⟨w4, hw4⟩ : ∃ x : World, x = w3.alloc (.cells #[.slice Ap (itR n (j + 1)).sets.length cp, .slice Aq' (itR n (j + 1)).links.length cq'] 27) := ⟨_, rfl⟩
      rw [← hw4] at HS4 Hnx4 Hob4 Hrb4 HSo4 Hx4
      have Hw4 := Lib.hid hw4
      rw [show narR (itR n j) = itR n (j + 1) from rfl]
      clear hnew hx3 hS3 hxb3 ob0 ob1 obg hx34 hw4
      go_upto_region 6 with fail
      rw [← Hw4.out]
      clear Hw4
      have ob := Hob4.out; have ob0 := ob.at0; have ob1 := ob.at1; have obg := ob.1; have Hob := Lib.hid ob; clear ob
      have nx := Hnx4.out; have nx0 := nx.at0; have nx1 := nx.at1; have nxg := nx.1; have Hnx := Lib.hid nx; clear nx
      by_cases hf : Fix (itR n j)
      · have he : (netDays (itR n (j + 1)).sets == netDays (itR n j).sets) = true := beq_iff_eq.2 (Hq.out.2 hf)
        have Hs := Lib.hid (show Stops n j from ⟨hlt, Hgo.out, hf⟩)
        clear hf
        (refine wp_region_onto prog_mixed (by kernel_rfl) ?_; (repeat (go_big_quiet_step ((first | (go_at_call 155; with_reducible exact onto_callX (spec_l19Count_d _ _ (itR n (j + 1)) _ (HS4.out.netIn.up (onto_ext _ _)) Hd1.out.1)) | (go_at_call 155; with_reducible exact onto_callX (spec_l19Count_d _ _ (itR n j) _ (HSo4.out.netIn.up (onto_ext _ _)) Hd.out.1)))))); refine onto_end ?_; intro w5 hx5)
        clear ob0 ob1 obg nx0 nx1 nxg
        have xb := Hob4.out.ext hx5; have xb0 := xb.at0; have xb1 := xb.at1; have xbg := xb.1; have Hxb := Lib.hid xb; clear xb
        have rb := Hrb4.out.ext hx5; have rb0 := rb.at0; have rb1 := rb.at1; have rbg := rb.1; have Hrb := Lib.hid rb; clear rb
        have rf0 := Hrb.out.fz 0 (by simp)
        have rf1 := Hrb.out.fz 1 (by simp)
        go_wp2_with fail
        refine bodyPost_ret (v := .tuple #[.agg #[.slice A (itR n j).sets.length c, .slice A' (itR n j).links.length c'], .int .i64 j, .bool true]) (by simp [results, Try.results153, go_sem, *]) rfl ?_
        exact ⟨A, A', c, c', a1, b1, j, true, itR n j, rfl, (Hx4.out.trans hx5).stored (by omega), ((HSo4.out.ext hx5).stored (by omega)).mono (by omega), .inl ⟨rfl, j, Hs.out, rfl, rfl⟩⟩
      · have he : (netDays (itR n (j + 1)).sets == netDays (itR n j).sets) = false := beq_eq_false_iff_ne.2 (fun hh => hf (Hq.out.1 hh))
        have Hf := Lib.hid hf
        clear hf
        (refine wp_region_onto prog_mixed (by kernel_rfl) ?_; (repeat (go_big_quiet_step ((first | (go_at_call 155; with_reducible exact onto_callX (spec_l19Count_d _ _ (itR n (j + 1)) _ (HS4.out.netIn.up (onto_ext _ _)) Hd1.out.1)) | (go_at_call 155; with_reducible exact onto_callX (spec_l19Count_d _ _ (itR n j) _ (HSo4.out.netIn.up (onto_ext _ _)) Hd.out.1)))))); refine onto_end ?_; intro w5 hx5)
        clear ob0 ob1 obg nx0 nx1 nxg
        have nx := Hnx4.out.ext hx5; have nx0 := nx.at0; have nx1 := nx.at1; have nxg := nx.1; have Hnx := Lib.hid nx; clear nx
        go_wp2_with fail
        refine Calls.mono (spec_IsNetwork _ _ (itR n (j + 1)) _ (HS4.out.netIn.up hx5)) ?_
        rintro e w6 ⟨rfl, hx6⟩
        clear nx0 nx1 nxg Hnx
        have hx56 := hx5.trans hx6
        have hz56 := hx56.size
        have nx := Hnx4.out.ext hx56; have nx0 := nx.at0; have nx1 := nx.at1; have nxg := nx.1; have Hnx := Lib.hid nx; clear nx
        have ob := Hob4.out.ext hx56; have ob0 := ob.at0; have ob1 := ob.at1; have obg := ob.1; have Hob := Lib.hid ob; clear ob
        by_cases hl : Lim (itR n (j + 1))
        · have Hl := Lib.hid hl
          rw [B_true ((netOk_iff Hd1.out.1).2 hl)]
          clear hl
          have of0 := Hob.out.fz 0 (by simp)
          have of1 := Hob.out.fz 1 (by simp)
          have Hfin : Hid (NaSt 60 n w w1.heap.size (w.heap.size + 1) w2.heap.size (j + 1) ((w6.setCell ⟨w2.heap.size, 0, none⟩ (.slice Ap (itR n (j + 1)).sets.length cp)).setCell ⟨w2.heap.size, 1, none⟩ (.slice Aq' (itR n (j + 1)).links.length cq'))) :=
            Lib.hid ⟨a2, b2, Ap, Aq', cp, cq', (Hx4.out.trans hx56).stored (by omega), (Hrb4.out.ext hx56).off (off_two _ _ _ _) (by omega), ((Hob4.out.ext hx56).set 0 _ (by simp)).set 1 _ (by simp),
              ((HS4.out.ext hx56).stored (by omega)).mono (by omega), Hgo.out.step Hf.out Hl.out⟩
          clear hx56 hx5 hx6
          go_wp2_with fail
          go_roundg (201 - (j + 1))
          case measure => omega
          case rel => exact ⟨j + 1, by omega, by go_num, Hfin⟩
        · have Hs := Lib.hid (Hgo.out.wide Hf.out hl)
          rw [B_false (fun hh => hl ((netOk_iff Hd1.out.1).1 hh))]
          clear hl
          have rb := Hrb4.out.ext hx56; have rb0 := rb.at0; have rb1 := rb.at1; have rbg := rb.1; have Hrb := Lib.hid rb; clear rb
          have rf0 := Hrb.out.fz 0 (by simp)
          have rf1 := Hrb.out.fz 1 (by simp)
          go_wp2_with fail
          refine bodyPost_ret (v := .tuple #[.agg #[.slice A (itR n j).sets.length c, .slice A' (itR n j).links.length c'], .int .i64 0, .bool false]) (by simp [results, Try.results153, go_sem, *]) rfl ?_
          exact ⟨A, A', c, c', a1, b1, 0, false, itR n j, rfl, (Hx4.out.trans hx56).stored (by omega), ((HSo4.out.ext hx56).stored (by omega)).mono (by omega), .inr ⟨rfl, Hs.out⟩⟩
    · obtain rfl : j = 201 := by omega
      have T1 : decide (((201 : Nat) : Int) ≤ 200) = false := decide_eq_false (by omega)
      have ob := Hob.out; have ob0 := ob.at0; have ob1 := ob.at1; have obg := ob.1; have Hob := Lib.hid ob; clear ob
      have rb := Hrb.out; have rb0 := rb.at0; have rb1 := rb.at1; have rbg := rb.1; have Hrb := Lib.hid rb; clear rb
      have rf0 := Hrb.out.fz 0 (by simp)
      have rf1 := Hrb.out.fz 1 (by simp)
      go_wp2_with fail
      refine bodyPost_ret (v := .tuple #[.agg #[.slice A (itR n 201).sets.length c, .slice A' (itR n 201).links.length c'], .int .i64 0, .bool false]) (by simp [results, Try.results153, go_sem, *]) rfl ?_
      exact ⟨A, A', c, c', a1, b1, 0, false, itR n 201, rfl, hxr.stored (by omega), (HS.out.stored (by omega)).mono (by omega), .inr ⟨rfl, Hgo.out.end_⟩⟩
set_option maxRecDepth 100000 in
set_option maxHeartbeats 8000000 in
theorem spec_NarrowAll (s k : Value) (n : Net) (w : World) (h : NetIn w s k n) : Calls Try.prog 62 #[.agg #[s, k]] w (NewNet3 (naV n) (naC n) (naE n) w) := by
  obtain ⟨As, c0, rfl, hns0, hcs0⟩ := h.1.len
  obtain ⟨Ar, c1, rfl, hnk0, hck0⟩ := h.2.len
  have H := Lib.hid h
  clear h
  go_enter Try.func62, Try.ntmps62
  go_wp2_with fail
  refine Calls.mono (spec_IsNetwork _ _ n _ (H.out.up (by repeat (first | exact Ext.refl _ | assumption | refine Ext.alloc ?_ _ | refine Ext.drew ?_ | refine Ext.drewN ?_ _ | refine Ext.setCell ?_ (by first | (simp; done) | (simp; omega) | omega) _ | refine Ext.trans ?_ (by assumption))))) ?_
  rintro e w1 ⟨rfl, hx1⟩
  have hx : Ext w w1 := (by repeat (first | exact Ext.refl _ | assumption | refine Ext.alloc ?_ _ | refine Ext.drew ?_ | refine Ext.drewN ?_ _ | refine Ext.setCell ?_ (by first | (simp; done) | (simp; omega) | omega) _ | refine Ext.trans ?_ (by assumption)))
  have Hnb := Lib.hid (((Boxed.new w [.slice As n.sets.length c0, .slice Ar n.links.length c1] 27).ext ((Ext.refl _).alloc (.cells #[.slice none 0 0, .slice none 0 0] 27))).ext hx1)
  have Hrb : Hid (Boxed w1 (w.heap.size + 1) [.slice none 0 0, .slice none 0 0]) := Lib.hid
    (by
      have := (Boxed.new (w.alloc (.cells #[.slice As n.sets.length c0, .slice Ar n.links.length c1] 27)) [.slice none 0 0, .slice none 0 0] 27).ext hx1
      rwa [World.size_alloc] at this)
  have hr1 := Hrb.out.1
  clear hx1
  by_cases hok : NetOk n
  · have Hok := Lib.hid hok
    rw [B_true hok]
    clear hok
    have hb := Hnb.out; have hb0 := hb.at0; have hb1 := hb.at1; have hbg := hb.1; have Hhb := Lib.hid hb; clear hb
    go_wp2_with fail
    refine Calls.mono (spec_l19All _ _ n _ (H.out.up hx) Hok.out) ?_
    rintro e w2 ⟨A, A', c, c', a, b, x, o, m, rfl, hx2, hS, hcase⟩
    have HS := Lib.hid hS
    have hz2 := hx2.size
    have hxx := hx.trans hx2
    have hrb2 := Hrb.out.ext hx2
    clear hS hb0 hb1 hbg Hhb hx2
    rcases hcase with ⟨rfl, j, hst, rfl, rfl⟩ | ⟨rfl, hno⟩
    · have Hs := Lib.hid (na_yes Hok.out hst)
      clear hst
      have rb := hrb2; have rb0 := rb.at0; have rb1 := rb.at1; have rbg := rb.1; have Hrb := Lib.hid rb; clear rb
      have rf0 := Hrb.out.fz 0 (by simp)
      have rf1 := Hrb.out.fz 1 (by simp)
      clear hrb2
      go_wp2_with fail
      refine bodyPost_ret (v := .tuple #[.agg #[.slice A (itR n j).sets.length c, .slice A' (itR n j).links.length c'], .int .i64 j, .int .i64 0]) (by simp [results, Try.results62, go_sem, *]) rfl ?_
      rw [Hs.out.1, Hs.out.2.1, Hs.out.2.2]
      have hxa : ∀ W : World, Ext W (W.alloc (.cells #[.slice A (itR n j).sets.length c, .slice A' (itR n j).links.length c'] 27)) := fun W => (by repeat (first | exact Ext.refl _ | assumption | refine Ext.alloc ?_ _ | refine Ext.drew ?_ | refine Ext.drewN ?_ _ | refine Ext.setCell ?_ (by first | (simp; done) | (simp; omega) | omega) _ | refine Ext.trans ?_ (by assumption)))
      exact ⟨_, _, rfl, (hxx.stored (show w.heap.size ≤ w.heap.size + 1 by omega)).trans (hxa _), (((HS.out.stored (show w.heap.size + 1 < w1.heap.size by omega)).mono (by omega)).ext (hxa _)).own⟩
    · have Hs := Lib.hid (na_no Hok.out hno)
      clear hno
      have rb := hrb2; have rb0 := rb.at0; have rb1 := rb.at1; have rbg := rb.1; have Hrb := Lib.hid rb; clear rb
      have rf0 := Hrb.out.fz 0 (by simp)
      have rf1 := Hrb.out.fz 1 (by simp)
      clear hrb2
      go_wp2_with fail
      refine bodyPost_ret (v := .tuple #[.agg #[.slice none 0 0, .slice none 0 0], .int .i64 0, .int .i64 3]) (by simp [results, Try.results62, go_sem, *]) rfl ?_
      rw [Hs.out.2.1, Hs.out.2.2]
      exact NewNet3.nil 0 3 Hs.out.1 ((hxx.stored (show w.heap.size ≤ w.heap.size + 1 by omega)).trans (by repeat (first | exact Ext.refl _ | assumption | refine Ext.alloc ?_ _ | refine Ext.drew ?_ | refine Ext.drewN ?_ _ | refine Ext.setCell ?_ (by first | (simp; done) | (simp; omega) | omega) _ | refine Ext.trans ?_ (by assumption))))
  · have Hok := Lib.hid hok
    rw [B_false hok]
    clear hok
    have rb := Hrb.out; have rb0 := rb.at0; have rb1 := rb.at1; have rbg := rb.1; have Hrb := Lib.hid rb; clear rb
    have rf0 := Hrb.out.fz 0 (by simp)
    have rf1 := Hrb.out.fz 1 (by simp)
    go_wp2_with fail
    refine bodyPost_ret (v := .tuple #[.agg #[.slice none 0 0, .slice none 0 0], .int .i64 0, .int .i64 1]) (by simp [results, Try.results62, go_sem, *]) rfl ?_
    rw [(na_inv Hok.out).2.1, (na_inv Hok.out).2.2]
    exact Lib.nil3 0 1 (na_inv Hok.out).1 hx (by omega)
end Go.Proofs.Ytfajmlkiidnhlaa

/- Contracts: IsNarrow. -/
namespace Go.Proofs.Ytfajmlkiidnhlaa
set_option linter.unusedVariables false
set_option linter.unusedSimpArgs false
open Go.RowKit
attribute [local go_sem] cell_onto

set_option maxHeartbeats 2000000 in
theorem impl_IsNarrow (s k : Value) (n : Net) (w : World) (h : NetIn w s k n) : Calls Try.prog 67 #[.agg #[s, k]] w (RetX (.tuple #[.bool (isnV n), .int .i64 (isnE n)]) w) := by
  have H := Lib.hid h
  clear h
  go_enter Try.func67, Try.ntmps67
  go_wp2_with fail
  refine Calls.mono (impl_IsNetwork s k n _ (H.out.up (by repeat (first | exact Ext.refl _ | assumption | refine Ext.alloc ?_ _ | refine Ext.drew ?_ | refine Ext.drewN ?_ _ | refine Ext.setCell ?_ (by first | (simp; done) | (simp; omega) | omega) _ | refine Ext.trans ?_ (by assumption))))) ?_
  rintro e w1 ⟨rfl, hx1⟩
  have hb := (Boxed.new w [s, k] 27).ext hx1; have hb0 := hb.at0; have hb1 := hb.at1; have hbg := hb.1; have Hhb := Lib.hid hb; clear hb
  have hx : Ext w w1 := (by repeat (first | exact Ext.refl _ | assumption | refine Ext.alloc ?_ _ | refine Ext.drew ?_ | refine Ext.drewN ?_ _ | refine Ext.setCell ?_ (by first | (simp; done) | (simp; omega) | omega) _ | refine Ext.trans ?_ (by assumption)))
  clear hx1
  by_cases hok : NetOk n
  · have Hok := Lib.hid hok
    rw [B_true hok]
    clear hok
    go_wp2_with fail
    refine Calls.mono (impl_ownNetwork s k n _ (H.out.up hx) Hok.out.small) ?_
    rintro e w2 hnew
    obtain ⟨Ao, co, Aq, cq, a, b, rfl, hx2, hS2⟩ := NetS.of2 hnew
    have hxb : Ext w2 (w2.alloc (.cells #[.slice Ao n.sets.length co, .slice Aq n.links.length cq] 27)) := (by repeat (first | exact Ext.refl _ | assumption | refine Ext.alloc ?_ _ | refine Ext.drew ?_ | refine Ext.drewN ?_ _ | refine Ext.setCell ?_ (by first | (simp; done) | (simp; omega) | omega) _ | refine Ext.trans ?_ (by assumption)))
    have HS := Lib.hid (hS2.ext hxb)
    have Hob := Lib.hid (Boxed.new w2 [.slice Ao n.sets.length co, .slice Aq n.links.length cq] 27)
    have hbw2 := hS2.bw
    have hbg := Hhb.out.1
    have Hnb := Lib.hid ((Hhb.out.ext hx2).ext hxb)
    have Hx := Lib.hid ((hx.trans hx2).trans hxb)
    have hz2 := hx2.size
    clear hnew hx2 hS2 hxb hb0 hb1 Hhb
    go_wp2_with fail
    refine Calls.mono (impl_narrowRound _ _ n w1.heap.size a b _ HS.out Hok.out.d) ?_
    rintro e w4 ⟨rfl, hO, hS4⟩
    have hla := HS.out.la
    have hzw := hx.size
    have hbw : b ≤ w2.heap.size := hbw2
    have HS4 := Lib.hid hS4
    have hx4 := Hx.out.off hO (fun x hx hh => by have := hh.1; omega)
    have nb := Hnb.out.off hO (fun hh => by have := hh.1; omega); have nb0 := nb.at0; have nb1 := nb.at1; have nbg := nb.1; have Hnb := Lib.hid nb; clear nb
    have ob := Hob.out.off hO (fun hh => by have := hh.2; omega); have ob0 := ob.at0; have ob1 := ob.at1; have obg := ob.1; have Hob := Lib.hid ob; clear ob
    clear hO hS4
    go_wp2_with fail
    refine Calls.mono (impl_sameSets s k _ _ n (narR n) _ (H.out.up hx4) HS4.out.netIn) ?_
    rintro e w5 ⟨rfl, hx5⟩
    go_wp2_with fail
    go_ret2
    exact ⟨by rw [(isn_ok Hok.out).1, (isn_ok Hok.out).2, B_congr (show n.sets = (narR n).sets ↔ Fix n from eq_comm)]; rfl, hx4.trans hx5⟩
  · have Hok := Lib.hid hok
    rw [B_false hok]
    clear hok
    go_wp2_with fail
    go_ret2
    exact ⟨by rw [(isn_no Hok.out).1, (isn_no Hok.out).2]; rfl, (by repeat (first | exact Ext.refl _ | assumption | refine Ext.alloc ?_ _ | refine Ext.drew ?_ | refine Ext.drewN ?_ _ | refine Ext.setCell ?_ (by first | (simp; done) | (simp; omega) | omega) _ | refine Ext.trans ?_ (by assumption)))⟩
set_option maxHeartbeats 2000000 in
theorem spec_IsNarrow (s k : Value) (n : Net) (w : World) (h : NetIn w s k n) : Calls Try.prog 68 #[.agg #[s, k]] w (RetX (.tuple #[.bool (isnV n), .int .i64 (isnE n)]) w) := by
  have H := Lib.hid h
  clear h
  go_enter Try.func68, Try.ntmps68
  go_wp2_with fail
  refine Calls.mono (spec_IsNetwork s k n _ (H.out.up (by repeat (first | exact Ext.refl _ | assumption | refine Ext.alloc ?_ _ | refine Ext.drew ?_ | refine Ext.drewN ?_ _ | refine Ext.setCell ?_ (by first | (simp; done) | (simp; omega) | omega) _ | refine Ext.trans ?_ (by assumption))))) ?_
  rintro e w1 ⟨rfl, hx1⟩
  have hb := (Boxed.new w [s, k] 27).ext hx1; have hb0 := hb.at0; have hb1 := hb.at1; have hbg := hb.1; have Hhb := Lib.hid hb; clear hb
  have hx : Ext w w1 := (by repeat (first | exact Ext.refl _ | assumption | refine Ext.alloc ?_ _ | refine Ext.drew ?_ | refine Ext.drewN ?_ _ | refine Ext.setCell ?_ (by first | (simp; done) | (simp; omega) | omega) _ | refine Ext.trans ?_ (by assumption)))
  clear hx1
  by_cases hok : NetOk n
  · have Hok := Lib.hid hok
    rw [B_true hok]
    have Hr := Lib.hid (narR_ok hok.d)
    have Hq := Lib.hid (show (netDays (narR n).sets = netDays n.sets) ↔ Fix n from netDays_eq Hr.out.1 hok.d Hr.out.2)
    clear hok
    go_wp2_with fail
    go_region_held3 (fun w' => w'.cell? ⟨w.heap.size, 0, none⟩ = some s ∧ w'.cell? ⟨w.heap.size, 1, none⟩ = some k ∧ Ext w1 w')
      (exact Ext.and_cell hbg hb0 (by repeat (first | exact Ext.refl _ | assumption | refine Ext.alloc ?_ _ | refine Ext.drew ?_ | refine Ext.drewN ?_ _ | refine Ext.setCell ?_ (by first | (simp; done) | (simp; omega) | omega) _ | refine Ext.trans ?_ (by assumption))) (Ext.and_cell hbg hb1 (by repeat (first | exact Ext.refl _ | assumption | refine Ext.alloc ?_ _ | refine Ext.drew ?_ | refine Ext.drewN ?_ _ | refine Ext.setCell ?_ (by first | (simp; done) | (simp; omega) | omega) _ | refine Ext.trans ?_ (by assumption))) (by repeat (first | exact Ext.refl _ | assumption | refine Ext.alloc ?_ _ | refine Ext.drew ?_ | refine Ext.drewN ?_ _ | refine Ext.setCell ?_ (by first | (simp; done) | (simp; omega) | omega) _ | refine Ext.trans ?_ (by assumption)))))
      ((first
        | (go_at_call 154; refine Calls.mono (spec_l19Round s k n _ (H.out.up (by repeat (first | exact Ext.refl _ | assumption | refine Ext.alloc ?_ _ | refine Ext.drew ?_ | refine Ext.drewN ?_ _ | refine Ext.setCell ?_ (by first | (simp; done) | (simp; omega) | omega) _ | refine Ext.trans ?_ (by assumption)))) Hok.out.d) ?_; rintro e wr hnew; obtain ⟨sr, kr, ar, br, rfl, hxr, hSr⟩ := NetS.of hnew; have HSr := Lib.hid hSr.netIn; clear hnew hSr)
        | (go_at_call 155; (with_reducible refine Calls.mono (spec_l19Count_d sr kr (narR n) _ ?_ Hr.out.1) ?_); exact HSr.out.up (by repeat (first | exact Ext.refl _ | assumption | refine Ext.alloc ?_ _ | refine Ext.drew ?_ | refine Ext.drewN ?_ _ | refine Ext.setCell ?_ (by first | (simp; done) | (simp; omega) | omega) _ | refine Ext.trans ?_ (by assumption))); rintro e wa ⟨rfl, hxa⟩)
        | (go_at_call 155; (with_reducible refine Calls.mono (spec_l19Count_d s k n _ ?_ Hok.out.d) ?_); exact H.out.up (by repeat (first | exact Ext.refl _ | assumption | refine Ext.alloc ?_ _ | refine Ext.drew ?_ | refine Ext.drewN ?_ _ | refine Ext.setCell ?_ (by first | (simp; done) | (simp; omega) | omega) _ | refine Ext.trans ?_ (by assumption))); rintro e wb ⟨rfl, hxb⟩)))
    go_wp2_with fail
    go_ret2
    have hb : (netDays (narR n).sets == netDays n.sets) = B (Fix n) := B_eq (beq_iff_eq.trans Hq.out)
    exact ⟨by rw [(isn_ok Hok.out).1, (isn_ok Hok.out).2, ← hb]; rfl, (by repeat (first | exact Ext.refl _ | assumption | refine Ext.alloc ?_ _ | refine Ext.drew ?_ | refine Ext.drewN ?_ _ | refine Ext.setCell ?_ (by first | (simp; done) | (simp; omega) | omega) _ | refine Ext.trans ?_ (by assumption)))⟩
  · have Hok := Lib.hid hok
    rw [B_false hok]
    clear hok
    go_wp2_with fail
    go_ret2
    exact ⟨by rw [(isn_no Hok.out).1, (isn_no Hok.out).2]; rfl, (by repeat (first | exact Ext.refl _ | assumption | refine Ext.alloc ?_ _ | refine Ext.drew ?_ | refine Ext.drewN ?_ _ | refine Ext.setCell ?_ (by first | (simp; done) | (simp; omega) | omega) _ | refine Ext.trans ?_ (by assumption)))⟩
end Go.Proofs.Ytfajmlkiidnhlaa
