/- The law FnExactIsNetwork, walked out of the contracts. -/
import Derived.Test.YtbpajobfhpmpdaaF
import Derived.Deep.RegionHeld3
namespace Go.Proofs.Ytbpajobfhpmpdaa
set_option linter.unusedVariables false
set_option linter.unusedSimpArgs false
open Go.RowKit
attribute [local go_sem] cell_onto

set_option maxHeartbeats 2000000 in
theorem law_IsNetwork (s k : Value) (n : Net) (w : World) (hs : Sets w 0 w.heap.size s n.sets) (hk : Links w 0 w.heap.size k n.links) :
    Calls Try.prog 3 #[.agg #[s, k]] w (RetX (.bool true) w) := by
  have Hs := Lib.hid hs
  have Hk := Lib.hid hk
  clear hs hk
  go_enter Try.func3, Try.ntmps3
  go_wp2_with fail
  have hb0 := Boxed.new w [s, k] 25
  refine (laws_szNetwork s k n 1048576 _ (by omega) (by omega) ((Hs.out.ext ((by repeat (first | exact Ext.refl _ | assumption | refine Ext.alloc ?_ _ | refine Ext.drew ?_ | refine Ext.drewN ?_ _ | refine Ext.setCell ?_ (by simp) _ | refine Ext.trans ?_ (by assumption))) : Ext w _) (Nat.le_refl _)).mono (Nat.le_refl _) (by simp)) ((Hk.out.ext ((by repeat (first | exact Ext.refl _ | assumption | refine Ext.alloc ?_ _ | refine Ext.drew ?_ | refine Ext.drewN ?_ _ | refine Ext.setCell ?_ (by simp) _ | refine Ext.trans ?_ (by assumption))) : Ext w _) (Nat.le_refl _)).mono (Nat.le_refl _) (by simp))).mono ?_
  rintro e w1 ⟨r, rfl, hx1, hr1, hr2, hr3⟩
  have hb1 := hb0.ext hx1
  have hx : Ext w w1 := (by repeat (first | exact Ext.refl _ | assumption | refine Ext.alloc ?_ _ | refine Ext.drew ?_ | refine Ext.drewN ?_ _ | refine Ext.setCell ?_ (by simp) _ | refine Ext.trans ?_ (by assumption)))
  have h0 := hb1.at0
  have h1 := hb1.at1
  have hz := hb1.1
  have Hb1 := Lib.hid hb1
  have Hr := Lib.hid hr3
  clear hr3 hb0 hb1 hx1
  go_wp2_with fail
  · go_ret
    exact ⟨rfl, (by repeat (first | exact Ext.refl _ | assumption | refine Ext.alloc ?_ _ | refine Ext.drew ?_ | refine Ext.drewN ?_ _ | refine Ext.setCell ?_ (by simp) _ | refine Ext.trans ?_ (by assumption)))⟩
  · have Hsm := Lib.hid (Hr.out (by omega))
    refine (laws_toNetwork s k n w.heap.size w1 (Hs.out.ext hx (Nat.le_refl _)) (Hk.out.ext hx (Nat.le_refl _)) hx.size Hsm.out).mono ?_
    rintro e w2 ⟨s2, k2, rfl, hx2, ho2⟩
    have hp2 := ho2.net.parts
    have Hs2 := Lib.hid (hp2.1.mono (Nat.zero_le _) (Nat.le_refl _))
    have Hk2 := Lib.hid (hp2.2.mono (Nat.zero_le _) (Nat.le_refl _))
    clear ho2 hp2
    go_wp2_with fail
    refine (spec_IsNetwork s2 k2 n w2 Hs2.out Hk2.out).mono ?_
    rintro e w3 ⟨rfl, hx3⟩
    have hx' : Ext w w3 := (by repeat (first | exact Ext.refl _ | assumption | refine Ext.alloc ?_ _ | refine Ext.drew ?_ | refine Ext.drewN ?_ _ | refine Ext.setCell ?_ (by simp) _ | refine Ext.trans ?_ (by assumption)))
    have hb := (Hb1.out.ext hx2).ext hx3
    have h0 := hb.at0
    have h1 := hb.at1
    have hz := hb.1
    have Hb := Lib.hid hb
    clear hb Hs2 Hk2 hx2 hx3 hx Hb1
    go_wp2_with fail
    refine (laws_toNetwork s k n w.heap.size w3 (Hs.out.ext hx' (Nat.le_refl _)) (Hk.out.ext hx' (Nat.le_refl _)) hx'.size Hsm.out).mono ?_
    rintro e w4 ⟨s4, k4, rfl, hx4, ho4⟩
    have hp4 := ho4.net.parts
    have hs4 := hp4.1
    have hk4 := hp4.2
    obtain ⟨As, cs, rfl, _, _⟩ := hs4.len
    obtain ⟨Ak, ck, rfl, _, _⟩ := hk4.len
    have Hs4 := Lib.hid (hs4.mono (Nat.zero_le _) (Nat.le_refl _))
    have Hk4 := Lib.hid (hk4.mono (Nat.zero_le _) (Nat.le_refl _))
    clear ho4 hp4 hs4 hk4
    go_wp2_with fail
    have hx0 : Ext w4 (w4.alloc (.cells #[.slice As n.sets.length cs, .slice Ak n.links.length ck] 31)) := (by repeat (first | exact Ext.refl _ | assumption | refine Ext.alloc ?_ _ | refine Ext.drew ?_ | refine Ext.drewN ?_ _ | refine Ext.setCell ?_ (by simp) _ | refine Ext.trans ?_ (by assumption)))
    refine (impl_IsNetwork _ _ n _ ((Hs4.out.ext hx0 (Nat.le_refl _)).mono (Nat.le_refl _) hx0.size) ((Hk4.out.ext hx0 (Nat.le_refl _)).mono (Nat.le_refl _) hx0.size)).mono ?_
    rintro e w5 ⟨rfl, hx5⟩
    have hbx := (Boxed.new w4 [.slice As n.sets.length cs, .slice Ak n.links.length ck] 31).ext hx5
    have hb := (((Hb.out.ext hx4).ext hx0)).ext hx5
    have hx45 : Ext w4 w5 := (by repeat (first | exact Ext.refl _ | assumption | refine Ext.alloc ?_ _ | refine Ext.drew ?_ | refine Ext.drewN ?_ _ | refine Ext.setCell ?_ (by simp) _ | refine Ext.trans ?_ (by assumption)))
    have hx : Ext w w5 := (by repeat (first | exact Ext.refl _ | assumption | refine Ext.alloc ?_ _ | refine Ext.drew ?_ | refine Ext.drewN ?_ _ | refine Ext.setCell ?_ (by simp) _ | refine Ext.trans ?_ (by assumption)))
    have h0 := hb.at0
    have h1 := hb.at1
    have hz := hb.1
    have hx0' := hbx.at0
    have hx1' := hbx.at1
    have hzx := hbx.1
    have Hs5 := Lib.hid ((Hs4.out.ext hx45 (Nat.le_refl _)).mono (Nat.le_refl _) hx45.size)
    have Hk5 := Lib.hid ((Hk4.out.ext hx45 (Nat.le_refl _)).mono (Nat.le_refl _) hx45.size)
    clear hx0 hx4 hx5 Hs4 Hk4 hbx hb Hb hx' hx45
    go_wp2_with fail
    go_region_held3 (fun w' => w'.cell? ⟨w.heap.size, 0, none⟩ = some s ∧ w'.cell? ⟨w.heap.size, 1, none⟩ = some k ∧ w'.cell? ⟨w4.heap.size, 0, none⟩ = some (.slice As n.sets.length cs) ∧ w'.cell? ⟨w4.heap.size, 1, none⟩ = some (.slice Ak n.links.length ck) ∧ Ext w5 w')
      (exact Ext.keep22 hz hzx h0 h1 hx0' hx1' (by repeat (first | exact Ext.refl _ | assumption | refine Ext.alloc ?_ _ | refine Ext.drew ?_ | refine Ext.drewN ?_ _ | refine Ext.setCell ?_ (by simp) _ | refine Ext.trans ?_ (by assumption))))
      (first
        | (go_at_call 11; refine Calls.mono (laws_toNetwork s k n w.heap.size _ (Hs.out.ext (by repeat (first | exact Ext.refl _ | assumption | refine Ext.alloc ?_ _ | refine Ext.drew ?_ | refine Ext.drewN ?_ _ | refine Ext.setCell ?_ (by simp) _ | refine Ext.trans ?_ (by assumption))) (Nat.le_refl _)) (Hk.out.ext (by repeat (first | exact Ext.refl _ | assumption | refine Ext.alloc ?_ _ | refine Ext.drew ?_ | refine Ext.drewN ?_ _ | refine Ext.setCell ?_ (by simp) _ | refine Ext.trans ?_ (by assumption))) (Nat.le_refl _)) (by simpa using hx.size) Hsm.out) ?_; rintro e w6 ⟨s6, k6, rfl, hx6, ho6⟩)
        | (go_at_call 13; refine Calls.mono (laws_eqNetwork _ _ _ _ n _ ((Hs5.out.ext (by repeat (first | exact Ext.refl _ | assumption | refine Ext.alloc ?_ _ | refine Ext.drew ?_ | refine Ext.drewN ?_ _ | refine Ext.setCell ?_ (by simp) _ | refine Ext.trans ?_ (by assumption))) (Nat.le_refl _)).mono (Nat.le_refl _) (Ext.size (by repeat (first | exact Ext.refl _ | assumption | refine Ext.alloc ?_ _ | refine Ext.drew ?_ | refine Ext.drewN ?_ _ | refine Ext.setCell ?_ (by simp) _ | refine Ext.trans ?_ (by assumption))))) ((Hk5.out.ext (by repeat (first | exact Ext.refl _ | assumption | refine Ext.alloc ?_ _ | refine Ext.drew ?_ | refine Ext.drewN ?_ _ | refine Ext.setCell ?_ (by simp) _ | refine Ext.trans ?_ (by assumption))) (Nat.le_refl _)).mono (Nat.le_refl _) (Ext.size (by repeat (first | exact Ext.refl _ | assumption | refine Ext.alloc ?_ _ | refine Ext.drew ?_ | refine Ext.drewN ?_ _ | refine Ext.setCell ?_ (by simp) _ | refine Ext.trans ?_ (by assumption))))) (ho6.net.parts.1.mono (Nat.zero_le _) (Nat.le_refl _)) (ho6.net.parts.2.mono (Nat.zero_le _) (Nat.le_refl _))) ?_; rintro e w7 ⟨rfl, hx7⟩))
    go_wp2_with fail
    go_ret
    exact ⟨rfl, (by repeat (first | exact Ext.refl _ | assumption | refine Ext.alloc ?_ _ | refine Ext.drew ?_ | refine Ext.drewN ?_ _ | refine Ext.setCell ?_ (by simp) _ | refine Ext.trans ?_ (by assumption)))⟩
end Go.Proofs.Ytbpajobfhpmpdaa
