/- Contracts: CitingOrder, the reference's. -/
import Derived.Test.YtmmokjnljaifcaaGreatDoorE1Qu
import Derived.Test.YtmmokjnljaifcaaGreatDoorE1Gc
namespace Go.Proofs.YtmmokjnljaifcaaGreatDoor
set_option linter.unusedVariables false
set_option linter.unusedSimpArgs false
open Go.RowKit
attribute [local go_sem] cell_onto

theorem hasI_mem {l : List Int} {x : Int} : HasI l x ↔ x ∈ l := by
  unfold HasI
  constructor
  · rintro ⟨i, hi, e⟩
    unfold inAt at e
    rw [List.getD_eq_getElem?_getD, List.getElem?_eq_getElem hi] at e
    have e : l[i] = x := e
    rw [← e]; exact List.getElem_mem hi
  · intro h
    obtain ⟨j, hj, e⟩ := List.getElem_of_mem h
    refine ⟨j, hj, ?_⟩
    unfold inAt
    rw [List.getD_eq_getElem?_getD, List.getElem?_eq_getElem hj]
    exact e
/-- the least free deed from s on -/
def NxOk (ds : List Ded) (o : List Int) (s : Nat) (x : Int) : Prop := (x = -1 ∧ ∀ t, s ≤ t → t < ds.length → ¬ CoFree ds o t) ∨ ∃ j, s ≤ j ∧ j < ds.length ∧ x = (j : Int) ∧ CoFree ds o j ∧ ∀ t, s ≤ t → t < j → ¬ CoFree ds o t
theorem NxOk.start (ds : List Ded) (o : List Int) : NxOk ds o ds.length (-1) := .inl ⟨rfl, fun t h1 h2 => by omega⟩
theorem NxOk.yes {ds : List Ded} {o : List Int} {s : Nat} (hs : s < ds.length) (h : CoFree ds o s) : NxOk ds o s (s : Int) := .inr ⟨s, Nat.le_refl _, hs, rfl, h, fun t h1 h2 => by omega⟩
theorem NxOk.no {ds : List Ded} {o : List Int} {s : Nat} {x : Int} (h : NxOk ds o (s + 1) x) (hn : ¬ CoFree ds o s) : NxOk ds o s x := by
  rcases h with ⟨e, h1⟩ | ⟨j, j1, j2, j3, j4, j5⟩
  · exact .inl ⟨e, fun t h2 h3 => by
      by_cases e : t = s
      · subst e; exact hn
      · exact h1 t (by omega) h3⟩
  · exact .inr ⟨j, by omega, j2, j3, j4, fun t h2 h3 => by
      by_cases e : t = s
      · subst e; exact hn
      · exact j5 t (by omega) h3⟩
theorem NxOk.done {ds : List Ded} {o : List Int} {x : Int} (h : NxOk ds o 0 x) : coNext ds o = x := by
  rcases h with ⟨e, h1⟩ | ⟨j, _, j2, j3, j4, j5⟩
  · rw [e]; exact fstIx_none _ (fun i hi => h1 i (by omega) hi)
  · rw [j3]; exact fstIx_at _ j j2 j4 (fun i hi => j5 i (by omega) hi)
theorem ints_of_row {w : World} {b : Nat} {T : TypeId} {v : Value} {o : List Int} (h : w.ownsRow b T 1 v o.length (cellsOf (o.length * 1) (intCell o))) : Ints w 0 w.heap.size v o := by
  obtain ⟨g, hg, ho⟩ := Own.of_owned h
  exact ho.row (fun hn => ⟨Nat.zero_le _, ho.lt hn⟩)
set_option maxRecDepth 100000 in
set_option maxHeartbeats 16000000 in
theorem spec_CitingOrder (vr vp vt vl vw vs vse vha v : Value) (W : Wrl) (l : List Ded) (w : World) (h : WrlAt w 0 w.heap.size vr vp vt vl vw vs vse vha W) (hd : Deds w 0 w.heap.size v l) (hsm : WSm W) (hnm : DsNm l) :
    Calls Tryz.prog 17 #[.agg #[vr, .int .i64 W.ch.fr, .int .i64 W.ch.to, vp, vt, vl, vw, vs, vse, vha], v] w (NewInts2 (coL W l) (coE W l) w) := by
  obtain ⟨A, c, rfl, hn, hc⟩ := hd.len
  have H := Lib.hid h
  have Hd := Lib.hid hd
  clear h hd
  obtain ⟨q1, e1⟩ : ∃ b, B (DedsOk W l) = b := ⟨_, rfl⟩
  have Hq1 := Lib.hid e1
  clear e1
  go_enter Tryz.func17, Tryz.ntmps17
  go_wp2_with fail
  refine Calls.mono (spec_AreDeeds vr vp vt vl vw vs vse vha _ W l _ (H.out.up (by repeat (first | exact Ext.refl _ | assumption | refine Ext.alloc ?_ _ | refine Ext.drew ?_ | refine Ext.drewN ?_ _ | refine Ext.setCell ?_ (by first | (simp; done) | (simp; omega) | omega) _ | refine Ext.trans ?_ (by assumption)))) (Hd.out.up (by repeat (first | exact Ext.refl _ | assumption | refine Ext.alloc ?_ _ | refine Ext.drew ?_ | refine Ext.drewN ?_ _ | refine Ext.setCell ?_ (by first | (simp; done) | (simp; omega) | omega) _ | refine Ext.trans ?_ (by assumption)))) hsm hnm) ?_
  rintro e w1 ⟨rfl, hx1⟩
  rw [Hq1.out]
  have hx : Ext w w1 := (by repeat (first | exact Ext.refl _ | assumption | refine Ext.alloc ?_ _ | refine Ext.drew ?_ | refine Ext.drewN ?_ _ | refine Ext.setCell ?_ (by first | (simp; done) | (simp; omega) | omega) _ | refine Ext.trans ?_ (by assumption)))
  clear hx1 hsm hnm
  cases q1
  case false =>
    obtain ⟨k1, k2⟩ := co_no (B_not.1 Hq1.out)
    have K := Lib.hid (And.intro k1 k2)
    clear k1 k2
    go_wp2_with fail
    go_ret2
    rw [K.out.1, K.out.2]
    exact NewInts2.nil 1 hx
  have Hok := Lib.hid (B_iff.1 Hq1.out)
  have h8 := Hok.out.2.1
  have hzw := hx.size
  have W1 : IntKind.i64.wrap ((l.length : Int) - 1) = (l.length : Int) - 1 := IntWalk.i64_in _ (by omega)
  go_wp2_with fail
  go_loopg [6, 7, 8, 9, 10] l.length (fun q u u7 u8 u9 u10 wr => ∃ (o : List Int), o.length + q = l.length ∧ coTo l o.length = some o ∧ Ext w wr ∧ w1.heap.size ≤ wr.heap.size ∧ wr.ownsRow w1.heap.size 2 1 u o.length (cellsOf (o.length * 1) (intCell o)))
  case atStart =>
    refine ⟨[], by simp, rfl, (by repeat (first | exact Ext.refl _ | assumption | refine Ext.alloc ?_ _ | refine Ext.drew ?_ | refine Ext.drewN ?_ _ | refine Ext.setCell ?_ (by first | (simp; done) | (simp; omega) | omega) _ | refine Ext.trans ?_ (by assumption))), by simp, ?_⟩
    have := World.ownsRow_made (base := w1.heap.size) (e := 2) (size := 1) w1 #[] 0 (Nat.le_refl _) (Nat.zero_le _) rfl
    exact row_ext this (by repeat (first | exact Ext.refl _ | assumption | refine Ext.alloc ?_ _ | refine Ext.drew ?_ | refine Ext.drewN ?_ _ | refine Ext.setCell ?_ (by first | (simp; done) | (simp; omega) | omega) _ | refine Ext.trans ?_ (by assumption)))
  case round =>
    obtain ⟨o, hq, hco, hxr, hzr, hown⟩ := hrel
    obtain ⟨A6, c6, rfl⟩ := ownsRow_len hown
    have Hco := Lib.hid hco
    have Hown := Lib.hid hown
    have HI := Lib.hid (ints_of_row hown)
    clear hco hown
    by_cases hlt : o.length < l.length
    case neg =>
      have hol : o.length = l.length := by omega
      have hcmp : ¬ (o.length : Int) < (l.length : Int) := by omega
      have K := Lib.hid (co_ok Hok.out (by rw [← hol]; exact Hco.out))
      clear hol hq
      go_wp2_with fail
      go_ret2
      rw [K.out.1, K.out.2]
      obtain ⟨g, hg, ho⟩ := Own.of_owned Hown.out
      exact ⟨_, g, rfl, hxr, fun hn => by have := (hg hn).2; omega, ho⟩
    have hcmp : (o.length : Int) < (l.length : Int) := by omega
    have Hq := Lib.hid hq
    clear hq
    go_wp2_with fail
    go_loopg [7, 8, 9, 10] l.length (fun q u7 u8 u9 u10 wx => ∃ (s : Nat) (x : Int), s = q ∧ s ≤ l.length ∧ u8 = .int .i64 ((s : Int) - 1) ∧ u7 = .int .i64 x ∧ NxOk l o s x ∧ Ext wr wx)
    case atStart => exact ⟨l.length, -1, rfl, Nat.le_refl _, by first | rfl | simp, rfl, NxOk.start l o, (by repeat (first | exact Ext.refl _ | assumption | refine Ext.alloc ?_ _ | refine Ext.drew ?_ | refine Ext.drewN ?_ _ | refine Ext.setCell ?_ (by first | (simp; done) | (simp; omega) | omega) _ | refine Ext.trans ?_ (by assumption)))⟩
    case round =>
      obtain ⟨s, x, rfl, hs, rfl, rfl, hnx, hxx⟩ := hrel
      have Hnx := Lib.hid hnx
      have hxwx := hxr.trans hxx
      have hzx := hxx.size
      have hz1x := Nat.le_trans hzr hxx.size
      clear hnx
      by_cases hs0 : 0 < s
      case neg =>
        obtain rfl : s = 0 := by omega
        have hcmp2 : ¬ (0 : Int) ≤ ((0 : Nat) : Int) - 1 := by omega
        have Hx := Lib.hid Hnx.out.done
        have Hcs := Lib.hid (coNext_cases l o)
        by_cases hneg : x < 0
        case pos =>
          have dn : decide (x < 0) = true := decide_eq_true hneg
          have K := Lib.hid (co_stop' Hok.out hlt Hco.out (by rcases Hcs.out with ⟨t, _⟩ | ⟨j, _, t, _⟩; exact t; rw [Hx.out] at t; omega))
          go_wp2_with fail
          go_ret2
          rw [K.out.1, K.out.2]
          exact NewInts2.nil 5 hxwx
        have dn : decide (x < 0) = false := decide_eq_false hneg
        go_wp2_with (at_builtin; refine wpList_append_row _ rfl _ _ 42 rfl w1.heap.size 2 1 8 Tryz.underlying42 (by kernel_rfl) (by omega) _ o.length 1 _ rfl (.inl (row_ext (row_ext Hown.out hxx) ((Ext.refl _).alloc _))) (.inr (by omega)) 0 _ _ (intCell [x]) rfl ((Boxed.new wr [.int .i64 x] 2).row rfl (int_cells _)) (fun _ _ => rfl) (by unfold maxLen; omega) (by omega) (by simp; omega) ?_; intro v7 w7 hown7 hput7)
        have H7 := Lib.hid (show w7.ownsRow w1.heap.size 2 1 v7 (o ++ [x]).length (cellsOf ((o ++ [x]).length * 1) (intCell (o ++ [x]))) from by rw [← intCells_push, List.length_append]; exact hown7)
        have hx7 : Ext w w7 := hput7.ext (hxwx.alloc (.cells #[.int .i64 x] 2)) hzw
        have hz7 := hput7.size
        rw [World.size_alloc] at hz7
        clear hown7 hput7
        go_wp2_with fail
        go_roundg (l.length - (o.length + 1))
        case measure => have := Hq.out; omega
        case rel => exact ⟨o ++ [x], by have := Hq.out; simp; omega, by rw [List.length_append, ← Hx.out]; exact coTo_go Hco.out (by rw [Hx.out]; omega), hx7, by omega, H7.out⟩
      obtain ⟨t, rfl⟩ : ∃ t, s = t + 1 := ⟨s - 1, by omega⟩
      have ht : t < l.length := by omega
      have et : (((t + 1 : Nat)) : Int) - 1 = (t : Int) := by omega
      rw [et]
      have ht0 : (0 : Int) ≤ (t : Int) := by omega
      have hti : (t : Int) < (l.length : Int) := by omega
      have Hnxt := Lib.hid Hnx.out
      clear et
      obtain ⟨q0, eq0⟩ : ∃ b, B (HasI o (t : Int)) = b := ⟨_, rfl⟩
      have Hq0 := Lib.hid eq0
      clear eq0
      go_wp2_with fail
      refine Calls.mono (spec_l01Has _ o (t : Int) _ (HI.out.up hxx)) ?_
      rintro e w3 ⟨rfl, hx3⟩
      rw [Hq0.out]
      have hxw3 := hxwx.trans hx3
      have hxr3 := hxx.trans hx3
      obtain ⟨b, off, vd, vwi, vci, eA, _, hb, h1, h2, h3, h4, h5, h6, h7, kd, kw, kc⟩ := (Hd.out.up hxw3).at_ ht
      subst eA
      obtain ⟨Ac, cc, rfl, hcn, hcc⟩ := kc.len
      have Kc := Lib.hid kc
      have hb3 : b < w3.heap.size := hb
      have Hc6 := Lib.hid h7
      have Hci := Lib.hid ((Hok.out.2.2 t ht).1.2.2.2.1)
      clear kd kw kc h1 h2 h3 h4 h5 h6 h7
      go_wp2_with fail
      go_loopg [9, 10] (dedAt l t).ci.length (fun q u9 u10 wy => ∃ (k : Nat) (fr : Bool), k + q = (dedAt l t).ci.length ∧ u10 = .int .i64 k ∧ u9 = .bool fr ∧ (fr = true ↔ ((t : Int) ∉ o ∧ ∀ z, z < k → ddIx l (strAt (dedAt l t).ci z) ∈ o)) ∧ Ext w3 wy)
      case atStart =>
        refine ⟨0, !q0, by omega, rfl, rfl, ?_, Ext.refl _⟩
        constructor
        · intro hh
          exact ⟨fun hm => by rw [B_true (hasI_mem.2 hm)] at Hq0; have := Hq0.out; rw [← this] at hh; simp at hh, fun z hz => absurd hz (by omega)⟩
        · rintro ⟨hm, _⟩
          have := Hq0.out
          rw [B_false (fun hh => hm (hasI_mem.1 hh))] at this
          rw [← this]; rfl
      case round =>
        obtain ⟨k, fr, hk, rfl, rfl, hfr, hxy⟩ := hrel
        have Hfr := Lib.hid hfr
        have hxwy := hxw3.trans hxy
        have hxry := hxr3.trans hxy
        have hby := Nat.lt_of_lt_of_le hb3 hxy.size
        have c6 := (hxy.cell (p := ⟨b, off + t * 7 + 6, none⟩) hb3).trans Hc6.out
        clear hfr
        have hk0 : (0 : Int) ≤ (k : Int) := by omega
        by_cases hkl : k < (dedAt l t).ci.length
        case neg =>
          obtain rfl : k = (dedAt l t).ci.length := by omega
          have hcmp3 : ¬ ((dedAt l t).ci.length : Int) < ((dedAt l t).ci.length : Int) := by omega
          cases fr
          case true =>
            have Hyes := Lib.hid (NxOk.yes ht (show CoFree l o t from Hfr.out.1 (by simp)))
            go_wp2_with fail
            go_roundg t
            case measure => omega
            case rel => exact ⟨t, (t : Int), rfl, by omega, by first | rfl | simp, rfl, Hyes.out, hxry⟩
          have Hno := Lib.hid (NxOk.no Hnxt.out (fun hh : CoFree l o t => by have := Hfr.out.2 hh; cases this))
          go_wp2_with fail
          go_roundg t
          case measure => omega
          case rel => exact ⟨t, x, rfl, by omega, by first | rfl | simp, rfl, Hno.out, hxry⟩
        have hki : (k : Int) < ((dedAt l t).ci.length : Int) := by omega
        cases fr
        case false =>
          go_wp2_with fail
          go_roundg ((dedAt l t).ci.length - (k + 1))
          case measure => omega
          case rel => exact ⟨k + 1, false, by omega, by go_num, rfl, ⟨fun hh => (by cases hh), fun hh => Hfr.out.2 ⟨hh.1, fun z hz => hh.2 z (by omega)⟩⟩, hxy⟩
        obtain ⟨bc, oc, eC, _, hbc, g1⟩ := (Kc.out.up hxy).at_ hkl
        subst eC
        have hbc' := hbc
        obtain ⟨nm, enm⟩ : ∃ nm, strAt (dedAt l t).ci k = nm := ⟨_, rfl⟩
        rw [enm] at g1
        have Hnm := Lib.hid enm
        obtain ⟨y, ey⟩ : ∃ y, ddIx l nm = y := ⟨_, rfl⟩
        have Hy := Lib.hid ey
        obtain ⟨qy, eqy⟩ : ∃ b, B (HasI o y) = b := ⟨_, rfl⟩
        have Hqy := Lib.hid eqy
        clear enm ey eqy
        go_wp2_with fail
        refine Calls.mono (spec_l17Find _ l nm _ (Hd.out.up hxwy)) ?_
        rintro e w5 ⟨rfl, hx5⟩
        rw [Hy.out]
        go_wp2_with fail
        refine Calls.mono (spec_l01Has _ o y _ (HI.out.up (hxry.trans hx5))) ?_
        rintro e w6 ⟨rfl, hx6⟩
        rw [Hqy.out]
        go_wp2_with fail
        go_roundg ((dedAt l t).ci.length - (k + 1))
        case measure => omega
        case rel =>
          refine ⟨k + 1, qy, by omega, by go_num, rfl, ?_, (hxy.trans hx5).trans hx6⟩
          constructor
          · intro hh
            obtain ⟨z1, z2⟩ := Hfr.out.1 (by simp)
            refine ⟨z1, fun z hz => ?_⟩
            by_cases e : z = k
            · subst e; rw [Hnm.out, Hy.out]
              exact hasI_mem.1 (B_iff.1 (Hqy.out.trans hh))
            · exact z2 z (by omega)
          · rintro ⟨_, z2⟩
            have := z2 k (by omega)
            rw [Hnm.out, Hy.out] at this
            rw [← Hqy.out]; exact B_true (hasI_mem.2 this)
end Go.Proofs.YtmmokjnljaifcaaGreatDoor
