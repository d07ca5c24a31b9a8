/- The law FnMarks, walked out of the contracts of the draws, the program's functions and the reference's. (Printed by genFK.py.) -/
import Derived.Test.YtbddkmlfjghllaaGreatDoorM1Ao
import Derived.Test.YtbddkmlfjghllaaGreatDoorM1Ag
import Derived.Test.YtbddkmlfjghllaaGreatDoorM1Ab
import Derived.Test.YtbddkmlfjghllaaGreatDoorT1Ac
import Derived.Test.YtbddkmlfjghllaaGreatDoorM1Jg
import Derived.Test.YtbddkmlfjghllaaGreatDoorT1S
import Derived.Test.YtbddkmlfjghllaaGreatDoorT1Sg
import Derived.Test.YtbddkmlfjghllaaGreatDoorT1Ad
namespace Go.Proofs.YtbddkmlfjghllaaGreatDoor
set_option linter.unusedVariables false
set_option linter.unusedSimpArgs false
open Go.RowKit
attribute [local go_sem] cell_onto

theorem NewSpsD.plain {l : List Sp} {e0 : Int} {w w' : World} {e : Ending} (h : NewSpsD l e0 w e w') : ∃ A c, e = .returned (.tuple #[.slice A l.length c, .int .i64 e0]) ∧ Ext w w' ∧ Hid (Spans w' 0 w'.heap.size (.slice A l.length c) l) := by
  obtain ⟨v, g, rfl, hx, _, ho⟩ := h
  have hr : Spans w' 0 w'.heap.size v l := ho.row (fun h0 => ⟨Nat.zero_le _, by
    obtain ⟨_, A, c, _, _, hh⟩ := ho
    exact (hh h0).1⟩)
  obtain ⟨A, c, rfl, _⟩ := hr.len
  exact ⟨A, c, rfl, hx, Lib.hid hr⟩
theorem NewStrD.plain {l : List ByteArray} {e0 : Int} {w w' : World} {e : Ending} (h : NewStrD l e0 w e w') : ∃ A c, e = .returned (.tuple #[.slice A l.length c, .int .i64 e0]) ∧ Ext w w' ∧ Hid (Strs w' 0 w'.heap.size (.slice A l.length c) l) := by
  obtain ⟨v, rfl, hx, hr⟩ := h
  obtain ⟨A, c, rfl, _⟩ := hr.len
  exact ⟨A, c, rfl, hx, Lib.hid hr⟩
theorem NewMksD.plain {l : List Nsp} {e0 : Int} {w w' : World} {e : Ending} (h : NewMksD l e0 w e w') : ∃ A c, e = .returned (.tuple #[.slice A l.length c, .int .i64 e0]) ∧ Ext w w' ∧ Hid (Nsps w' 0 w'.heap.size (.slice A l.length c) l) := by
  obtain ⟨v, rfl, hx, hr⟩ := h
  obtain ⟨A, c, rfl, _⟩ := hr.len
  exact ⟨A, c, rfl, hx, Lib.hid hr⟩
theorem mks_nsm {l : List Nsp} (h : MksOk l) : NSm l := fun i hi => by have := (h.2 i hi).1.1.2.1; omega
theorem hdE_okM {l : List Sp} {d : Int} (h1 : SetOk l) (h2 : DayOk d) : hdE l d = 0 := by unfold hdE; rw [B_true h1, B_true h2]; rfl
theorem hdV_okM {l : List Sp} {d : Int} (h1 : SetOk l) (h2 : DayOk d) (h3 : HasDay l d) : hdV l d = true := by unfold hdV; rw [B_true h1, B_true h2, B_true h3]; rfl
set_option maxRecDepth 100000 in
set_option maxHeartbeats 16000000 in
theorem law_FnMarks (v : Value) (cn : Nat) (w : World) (h : Byts w v cn) : Calls Tryz.prog 3 #[v] w (RetX (.bool true) w) := by
  obtain ⟨A, c, rfl⟩ := h.len
  have HX0 := Lib.hid h
  clear h
  go_enter Tryz.func3, Tryz.ntmps3
  go_wp2_with fail
  by_cases hbig : cn ≤ 4096
  case neg =>
    refine Calls.mono (laws_big_yes cn A c w hbig) ?_
    rintro e w' ⟨rfl, rfl⟩
    go_wp2_with fail
    go_ret
    exact ⟨rfl, (by repeat (first | exact Ext.refl _ | assumption | refine Ext.alloc ?_ _ | refine Ext.drew ?_ | refine Ext.drewN ?_ _ | refine Ext.setCell ?_ (by first | (simp; done) | (simp; omega) | omega) _ | refine Ext.trans ?_ (by assumption)))⟩
  have H := Lib.hid (HX0.out.few hbig)
  refine Calls.mono (laws_big_no cn A c w hbig) ?_
  rintro e w' ⟨rfl, rfl⟩
  clear HX0 hbig
  go_wp2_with fail
  refine Calls.mono (spec_DrawRecordUse cn _ w H.out) ?_
  rintro e w1 ⟨A1, c1, m, nm, n, aw, rfl, hx1, hl1, hn1, hs1, HM⟩
  have Hn := Lib.hid hn1
  clear hn1
  have Hr0 := Lib.hid (fun (h : recE m nm n aw = 0) => rec_ok h)
  go_wp2_with fail
  refine Calls.mono (impl_RecordUse _ m nm n aw w1 HM.out) ?_
  intro e w2 hp
  obtain ⟨A2, c2, rfl, hx2, H2⟩ := hp.plain
  clear hp
  have y2 : Ext w w2 := hx1.trans hx2
  go_wp2_with fail
  refine Calls.mono (spec_RecordUse _ m nm n aw w2 (HM.out.up hx2) Hn.out.nsm (by omega)) ?_
  intro e w3 hp
  obtain ⟨A3, c3, rfl, hx3, H3⟩ := hp.plain
  clear hp
  have y3 : Ext w w3 := y2.trans hx3
  generalize recL m nm n aw = x at *
  generalize recE m nm n aw = er at *
  go_wp2_with fail
  refine Calls.mono (spec_DrawMarkDays cn _ w3 (H.out.up y3)) ?_
  rintro e w4 ⟨A4, c4, ma, na, rfl, hx4, hl4, hn4, hs4, HA⟩
  have Hna := Lib.hid hn4
  clear hn4
  have y4 : Ext w w4 := y3.trans hx4
  go_wp2_with fail
  refine Calls.mono (impl_MarkDays _ ma na w4 HA.out Hna.out.nsm) ?_
  intro e w5 hp
  obtain ⟨A5, c5, rfl, hx5, H5⟩ := hp.plain
  clear hp
  have y5 : Ext w w5 := y4.trans hx5
  go_wp2_with fail
  refine Calls.mono (spec_MarkDays _ ma na w5 (HA.out.up hx5) Hna.out.nsm) ?_
  intro e w6 hp
  obtain ⟨A6, c6, rfl, hx6, H6⟩ := hp.plain
  clear hp
  have y6 : Ext w w6 := y5.trans hx6
  generalize mkdL ma na = sa at *
  generalize mkdE ma na = ea at *
  go_wp2_with fail
  refine Calls.mono (spec_DrawMarksOn cn _ w6 (H.out.up y6)) ?_
  rintro e w7 ⟨A7, c7, mc, dy, rfl, hx7, hl7, hn7, HC⟩
  have Hnc := Lib.hid hn7
  clear hn7
  have y7 : Ext w w7 := y6.trans hx7
  have Hin := Lib.hid (fun (h0 : mkoE mc dy = 0) (k : Nat) (hk : k < (mkoL mc dy).length) => mko_in h0 (strAt_mem.2 ⟨k, hk, rfl⟩))
  go_wp2_with fail
  refine Calls.mono (impl_MarksOn _ mc dy w7 HC.out) ?_
  intro e w8 hp
  obtain ⟨A8, c8, rfl, hx8, H8⟩ := hp.plain
  clear hp
  have y8 : Ext w w8 := y7.trans hx8
  go_wp2_with fail
  refine Calls.mono (spec_MarksOn _ mc dy w8 (HC.out.up hx8) Hnc.out.nsm) ?_
  intro e w9 hp
  obtain ⟨A9, c9, rfl, hx9, H9⟩ := hp.plain
  clear hp
  have y9 : Ext w w9 := y8.trans hx9
  have hyl := mkoL_len (l := mc) (n := dy)
  generalize mkoL mc dy = yl at *
  generalize mkoE mc dy = eo at *
  go_wp2_with fail
  refine Calls.mono (laws_likeMarks9 _ _ x w9 (H2.out.up ((((((hx3.trans hx4).trans hx5).trans hx6).trans hx7).trans hx8).trans hx9)) (H3.out.up (((((hx4.trans hx5).trans hx6).trans hx7).trans hx8).trans hx9))) ?_
  rintro e u1 ⟨rfl, hu1⟩
  go_wp2_with fail
  refine Calls.mono (laws_likeSpans9 _ _ sa u1 (H5.out.up ((((hx6.trans hx7).trans hx8).trans hx9).trans hu1)) (H6.out.up (((hx7.trans hx8).trans hx9).trans hu1))) ?_
  rintro e u2 ⟨rfl, hu2⟩
  go_wp2_with fail
  refine Calls.mono (laws_likeTexts9 _ _ yl u2 (H8.out.up ((hx9.trans hu1).trans hu2)) (H9.out.up (hu1.trans hu2))) ?_
  rintro e u3 ⟨rfl, hu3⟩
  have yu3 : Ext w u3 := ((y9.trans hu1).trans hu2).trans hu3
  have zx : Ext w2 u3 := ((((((((hx3.trans hx4).trans hx5).trans hx6).trans hx7).trans hx8).trans hx9).trans hu1).trans hu2).trans hu3
  have zc : Ext w7 u3 := ((((hx8.trans hx9).trans hu1).trans hu2).trans hu3)
  have z8 : Ext w8 u3 := (((hx9.trans hu1).trans hu2).trans hu3)
  clear hu1 hu2 hu3 hx3 hx4 hx5 hx6 hx7 hx8 hx9
  by_cases heo : eo = 0
  · subst heo
    go_wp2_with fail
    go_loopg [23, 24, 25, 26, 27] yl.length (fun q i u24 u25 u26 u27 wr => ∃ j : Nat, j + q = yl.length ∧ i = .int .i64 j ∧ Ext u3 wr)
    case atStart => exact ⟨0, by omega, rfl, Ext.refl _⟩
    case round =>
      obtain ⟨j, hj, rfl, hxr⟩ := hrel
      obtain ⟨wz, rfl⟩ : ∃ x : World, x = wr := ⟨_, rfl⟩
      have yz : Ext w wz := yu3.trans hxr
      by_cases hlt : j < yl.length
      · obtain ⟨hmk, hdy, hcov⟩ := Hin.out (by first | trivial | rfl) j hlt
        obtain ⟨d1, d2, d3⟩ := md_has hmk hcov
        have e1 := hdE_okM d2 hdy
        have e2 := hdV_okM d2 hdy d3
        have Hd := Lib.hid (And.intro d1 (And.intro e1 e2))
        clear hmk hdy hcov d1 d2 d3 e1 e2
        obtain ⟨by_, oy, eY, _, hby, k1⟩ := (H8.out.up (z8.trans hxr)).at_ hlt
        have hb0 : by_ < wz.heap.size := hby
        subst eY
        go_wp2_with fail
        refine Calls.mono (impl_MarkDays _ mc (strAt yl j) wz (HC.out.up (zc.trans hxr)) Hnc.out.nsm) ?_
        intro e v1 hp
        obtain ⟨B1, b1, rfl, hv1, HV⟩ := hp.plain
        rw [Hd.out.1]
        clear hp
        go_wp2_with fail
        refine Calls.mono (impl_HasDay _ _ dy v1 HV.out) ?_
        rintro e v2 ⟨rfl, hv2⟩
        rw [Hd.out.2.1, Hd.out.2.2]
        go_wp2_with fail
        go_roundg (yl.length - (j + 1))
        case measure => omega
        case rel => exact ⟨j + 1, by omega, by go_num, (hxr.trans hv1).trans hv2⟩
      · obtain rfl : j = yl.length := by omega
        by_cases her : er = 0
        case neg =>
          have hrb : (er == 0) = false := by simpa using her
          go_wp2_with fail
          go_ret
          exact ⟨rfl, yz⟩
        subst her
        obtain ⟨hmx, hdn, hcv⟩ := Hr0.out (by first | trivial | rfl)
        obtain ⟨d1, d2, d3⟩ := md_has hmx hcv
        have e1 := hdE_okM d2 hdn
        have e2 := hdV_okM d2 hdn d3
        have Hd := Lib.hid (And.intro d1 (And.intro e1 e2))
        have Hx := Lib.hid (B_true hmx)
        have hxl := hmx.1
        clear d1 d2 d3 e1 e2 hcv hdn
        go_wp2_with fail
        refine Calls.mono (impl_MarkDays _ x nm wz (H2.out.up (zx.trans hxr)) (mks_nsm hmx)) ?_
        intro e q1 hp
        obtain ⟨C1, d1, rfl, hq1, HV⟩ := hp.plain
        rw [Hd.out.1]
        clear hp hmx
        go_wp2_with fail
        refine Calls.mono (impl_HasDay _ _ n q1 HV.out) ?_
        rintro e q2 ⟨rfl, hq2⟩
        rw [Hd.out.2.1, Hd.out.2.2]
        go_wp2_with fail
        refine Calls.mono (impl_AreMarks _ x q2 (H2.out.up (((zx.trans hxr).trans hq1).trans hq2))) ?_
        rintro e q3 ⟨rfl, hq3⟩
        rw [Hx.out]
        go_wp2_with fail
        go_ret
        exact ⟨rfl, ((yz.trans hq1).trans hq2).trans hq3⟩
  · have heb : (eo == 0) = false := by simpa using heo
    go_wp2_with fail
    go_loopg [23, 24, 25, 26, 27] 0 (fun q i u24 u25 u26 u27 wr => i = .int .i64 0 ∧ Ext u3 wr)
    case atStart => exact ⟨rfl, Ext.refl _⟩
    case round =>
      obtain ⟨rfl, hxr⟩ := hrel
      obtain ⟨wz, rfl⟩ : ∃ x : World, x = wr := ⟨_, rfl⟩
      have yz : Ext w wz := yu3.trans hxr
      by_cases her : er = 0
      case neg =>
        have hrb : (er == 0) = false := by simpa using her
        go_wp2_with fail
        go_ret
        exact ⟨rfl, yz⟩
      subst her
      obtain ⟨hmx, hdn, hcv⟩ := Hr0.out (by first | trivial | rfl)
      obtain ⟨d1, d2, d3⟩ := md_has hmx hcv
      have e1 := hdE_okM d2 hdn
      have e2 := hdV_okM d2 hdn d3
      have Hd := Lib.hid (And.intro d1 (And.intro e1 e2))
      have Hx := Lib.hid (B_true hmx)
      have hxl := hmx.1
      clear d1 d2 d3 e1 e2 hcv hdn
      go_wp2_with fail
      refine Calls.mono (impl_MarkDays _ x nm wz (H2.out.up (zx.trans hxr)) (mks_nsm hmx)) ?_
      intro e q1 hp
      obtain ⟨C1, d1, rfl, hq1, HV⟩ := hp.plain
      rw [Hd.out.1]
      clear hp hmx
      go_wp2_with fail
      refine Calls.mono (impl_HasDay _ _ n q1 HV.out) ?_
      rintro e q2 ⟨rfl, hq2⟩
      rw [Hd.out.2.1, Hd.out.2.2]
      go_wp2_with fail
      refine Calls.mono (impl_AreMarks _ x q2 (H2.out.up (((zx.trans hxr).trans hq1).trans hq2))) ?_
      rintro e q3 ⟨rfl, hq3⟩
      rw [Hx.out]
      go_wp2_with fail
      go_ret
      exact ⟨rfl, ((yz.trans hq1).trans hq2).trans hq3⟩
end Go.Proofs.YtbddkmlfjghllaaGreatDoor
