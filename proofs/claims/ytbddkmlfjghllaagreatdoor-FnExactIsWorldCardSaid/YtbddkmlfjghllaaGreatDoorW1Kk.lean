/- Texts merged (a claim holds at most sixty files): Kk, Km. -/
import Derived.Test.YtbddkmlfjghllaaGreatDoorW1Kf
import Derived.Test.YtbddkmlfjghllaaGreatDoorW1Ki
import Derived.Test.YtbddkmlfjghllaaGreatDoorW1E
import Derived.IntWalk
import Derived.Deep.RegionLaw
import Derived.Deep.RegionHeld3
import Derived.Deep.Cut
/- Contract: l14From (the travels from a place, the reference's). (Printed by genKk.py.) -/
namespace Go.Proofs.YtbddkmlfjghllaaGreatDoor
set_option linter.unusedVariables false
set_option linter.unusedSimpArgs false
open Go.RowKit
attribute [local go_sem] cell_onto

def vcC (o : Vc) : Nat → Value := fun i => .int .i64 (o i)
theorem Blk.congrF {w : World} {g n : Nat} {f f' : Nat → Value} (h : Blk w g n f) (he : ∀ i, i < n → f i = f' i) : Blk w g n f' := ⟨h.1, fun i hi => by rw [← he i hi]; exact h.2 i hi⟩
theorem Blk.setV {w : World} {g n : Nat} {o : Vc} (h : Blk w g n (vcC o)) (j : Nat) (x : Int) (hj : j < n) : Blk (w.setCell ⟨g, j, none⟩ (.int .i64 x)) g n (vcC (set1 o j x)) := by
  refine (h.set j (.int .i64 x) hj).congrF (fun i _ => ?_)
  unfold vcC set1
  by_cases e : i = j
  · rw [if_pos e, if_pos e]
  · rw [if_neg e, if_neg e]
def VBd (n : Nat) (c : Int) (o : Vc) : Prop := ∀ i, i < n → -1 ≤ o i ∧ o i ≤ c
theorem VBd.rlx {n : Nat} {c : Int} {o : Vc} (h : VBd n c o) {a b : Nat} {d : Int} (ha : a < n) (d1 : 1 ≤ d) (d2 : d ≤ 60) (hc : 0 ≤ c) : VBd n (c + 60) (rlx o a b d) := by
  intro i hi
  have h1 := h i hi
  have h2 := h a ha
  unfold Proofs.YtbddkmlfjghllaaGreatDoor.rlx
  split
  · unfold set1
    split <;> omega
  · omega
theorem rl_no1 {o : Vc} {a b : Nat} {d : Int} (h : ¬ 0 ≤ o a) : rlx o a b d = o := by unfold rlx; rw [if_neg (fun hh => h hh.1)]
theorem rl_yes1 {o : Vc} {a b : Nat} {d : Int} (h : 0 ≤ o a) (h2 : o b < 0) : rlx o a b d = set1 o b (o a + d) := by unfold rlx; rw [if_pos ⟨h, .inl h2⟩]
theorem rl_yes2 {o : Vc} {a b : Nat} {d : Int} (h : 0 ≤ o a) (h2 : o a + d < o b) : rlx o a b d = set1 o b (o a + d) := by unfold rlx; rw [if_pos ⟨h, .inr h2⟩]
theorem rl_no2 {o : Vc} {a b : Nat} {d : Int} (h1 : ¬ o b < 0) (h2 : ¬ o a + d < o b) : rlx o a b d = o := by unfold rlx; rw [if_neg (fun hh => hh.2.elim h1 h2)]
/-- a row of numbers of its own -/
def NewVc (n : Nat) (o : Vc) (w : World) (e : Ending) (w' : World) : Prop := ∃ g, e = .returned (.slice (some ⟨g, 0, none⟩) n n) ∧ Ext w w' ∧ w.heap.size ≤ g ∧ Blk w' g n (vcC o)
set_option maxRecDepth 100000 in
set_option maxHeartbeats 32000000 in
theorem spec_l14From (v u : Value) (L : Lnd) (a : Int) (w : World) (hp : Strs w 0 w.heap.size v L.pl) (ht : Wys w 0 w.heap.size u L.wy) (hok : LndOk L) (ha0 : 0 ≤ a) (ha1 : a < L.pl.length) : Calls Tryz.prog 110 #[.agg #[v, u], .int .i64 a] w (NewVc L.pl.length (frmV L.pl.length L.wy a.toNat) w) := by
  obtain ⟨Ap, cp, rfl, hnp, hcp⟩ := hp.len
  obtain ⟨At, ct, rfl, hnt, hct⟩ := ht.len
  have Ht := Lib.hid ht
  obtain ⟨⟨hn1, hn12⟩, hw40, _, hwy⟩ := hok
  have Hwy := Lib.hid hwy
  clear hp ht hwy
  obtain ⟨n, hn⟩ : ∃ n, L.pl.length = n := ⟨_, rfl⟩
  rw [hn] at hn1 hn12 hcp hnp ha1 ⊢
  rw [hn] at Hwy
  clear hn
  have Hb := Lib.hid (Boxed.new w [.slice Ap n cp, .slice At L.wy.length ct] 69)
  have ha2 : a.toNat < n := by omega
  go_enter Tryz.func110, Tryz.ntmps110
  go_wp2_with (at_make; refine wpList_make_blk _ rfl _ _ 141 rfl 2 1 8 Tryz.underlying141 (by kernel_rfl) n rfl rfl (by omega) (by unfold maxLen; omega) ?_; intro w0 f0 hx0 hb0)
  rw [World.size_alloc] at hb0
  have Hb0 := Lib.hid hb0
  have hxa : Ext (w.alloc (.cells #[.slice Ap n cp, .slice At L.wy.length ct] 69)) w0 := (by repeat (first | exact Ext.refl _ | assumption | refine Ext.alloc ?_ _ | refine Ext.drew ?_ | refine Ext.drewN ?_ _ | refine Ext.setCell ?_ (by first | (simp; done) | (simp; omega) | omega) _ | refine Ext.trans ?_ (by assumption)))
  clear hb0 hx0
  try simp only [World.size_alloc]
  go_loopg [6] n (fun q i wr => ∃ (j : Nat) (f : Nat → Value), j + q = n ∧ i = .int .i64 j ∧ Ext (w.alloc (.cells #[.slice Ap n cp, .slice At L.wy.length ct] 69)) wr ∧ Hid (Blk wr (w.heap.size + 1) n f) ∧ Hid (∀ i, i < j → f i = .int .i64 (-1)))
  case atStart => exact ⟨0, f0, by omega, rfl, hxa, (by have h9 := Hb0.out; rw [Nat.mul_one] at h9; exact Lib.hid h9), Lib.hid (fun i hi => absurd hi (by omega))⟩
  clear Hb0 hxa
  case round =>
    obtain ⟨j, f, hj, rfl, hxr, HB, Hf⟩ := hrel
    have hj0 : (0 : Int) ≤ (j : Int) := by omega
    by_cases hlt : j < n
    · have hji : (j : Int) < (n : Int) := by omega
      have c1 := (HB.out.2 j hlt).1
      have c2 := (HB.out.2 j hlt).2
      have hg := HB.out.1
      have HB2 := Lib.hid (HB.out.set j (.int .i64 (-1)) hlt)
      have hx2 : Ext (w.alloc (.cells #[.slice Ap n cp, .slice At L.wy.length ct] 69)) (wr.setCell ⟨w.heap.size + 1, j, none⟩ (.int .i64 (-1))) := hxr.setCell (by rw [World.size_alloc]; exact Nat.le_refl _) _
      go_wp2_with fail
      go_roundg (n - (j + 1))
      case measure => omega
      case rel => exact ⟨j + 1, _, by omega, by go_num, hx2, HB2, Lib.hid (fun i hi => by
        by_cases e : i = j
        · rw [if_pos e]
        · rw [if_neg e]; exact Hf.out i (by omega))⟩
    · obtain rfl : j = n := by omega
      have hji : ¬ (j : Int) < (j : Int) := by omega
      have HV := Lib.hid (show Blk wr (w.heap.size + 1) j (vcC (fun _ => -1)) from HB.out.congrF (fun i hi => Hf.out i hi))
      clear HB Hf hlt
      have c1 := (HV.out.2 a.toNat ha2).1
      have c2 := (HV.out.2 a.toNat ha2).2
      have hg := HV.out.1
      have HV0 := Lib.hid (show Blk (wr.setCell ⟨w.heap.size + 1, a.toNat, none⟩ (.int .i64 0)) (w.heap.size + 1) j (vcC (bf0 a.toNat)) from HV.out.setV a.toNat 0 ha2)
      have hx2 : Ext (w.alloc (.cells #[.slice Ap j cp, .slice At L.wy.length ct] 69)) (wr.setCell ⟨w.heap.size + 1, a.toNat, none⟩ (.int .i64 0)) := hxr.setCell (by rw [World.size_alloc]; exact Nat.le_refl _) _
      have HA := Lib.hid (show VBd j (4800 * ((0 : Nat) : Int)) (bf0 a.toNat) from fun i _ => by unfold bf0; split <;> omega)
      go_wp2_with fail
      generalize (wr.setCell ⟨w.heap.size + 1, a.toNat, none⟩ (.int .i64 0)) = ws at *
      obtain ⟨n, hn⟩ : ∃ n, j = n := ⟨_, rfl⟩
      subst hn
      clear c1 c2 hg HV hxr
      go_loopg [7, 8, 9] j (fun q i u8 u9 wr => ∃ (r : Nat), r + q = j ∧ i = .int .i64 r ∧ Ext (w.alloc (.cells #[.slice Ap j cp, .slice At L.wy.length ct] 69)) wr ∧ Hid (Blk wr (w.heap.size + 1) j (vcC (bfR L.wy (bf0 a.toNat) r))) ∧ Hid (VBd j (4800 * (r : Int)) (bfR L.wy (bf0 a.toNat) r)))
      case atStart => exact ⟨0, by omega, rfl, hx2, HV0, HA⟩
      clear HV0 HA hx2
      case round =>
        obtain ⟨r, hr, rfl, hxr, HV, HA⟩ := hrel
        have hr0 : (0 : Int) ≤ (r : Int) := by omega
        have bxr := Hb.out.ext hxr
        have bx0 := bxr.at0
        have bx1 := bxr.at1
        have bxg := bxr.1
        clear bxr
        by_cases hlt : r < j
        · have hri : (r : Int) < (j : Int) := by omega
          obtain ⟨wz, rfl⟩ : ∃ x : World, x = wr := ⟨_, rfl⟩
          obtain ⟨O, hO⟩ : ∃ O, bfR L.wy (bf0 a.toNat) r = O := ⟨_, rfl⟩
          have HO1 := Lib.hid (show bfR L.wy (bf0 a.toNat) (r + 1) = bfW L.wy O L.wy.length from by rw [← hO]; rfl)
          rw [hO] at HV HA
          clear hO
          go_wp2_with fail
          clear bx0 bx1 bxg
          go_loopg [8, 9] L.wy.length (fun q i u9 wr => ∃ (m : Nat), m + q = L.wy.length ∧ i = .int .i64 m ∧ Ext (w.alloc (.cells #[.slice Ap j cp, .slice At L.wy.length ct] 69)) wr ∧ Hid (Blk wr (w.heap.size + 1) j (vcC (bfW L.wy O m))) ∧ Hid (VBd j (4800 * (r : Int) + 120 * (m : Int)) (bfW L.wy O m)))
          case atStart => exact ⟨0, by omega, rfl, hxr, HV, Lib.hid (by
            have h9 := HA.out
            intro i hi
            have := h9 i hi
            show -1 ≤ O i ∧ O i ≤ _
            omega)⟩
          clear HV HA
          case round =>
            obtain ⟨m, hm, rfl, hxm, HV, HA⟩ := hrel
            have hm0 : (0 : Int) ≤ (m : Int) := by omega
            have bxr := Hb.out.ext hxm
            have bx0 := bxr.at0
            have bx1 := bxr.at1
            have bxg := bxr.1
            have Hbx := Lib.hid bxr
            clear bxr
            have bxg1 : w.heap.size < wr.heap.size + 1 := by omega
            by_cases hmn : m < L.wy.length
            · have hmi : (m : Int) < (L.wy.length : Int) := by omega
              have hxw : Ext w wr := ((Ext.refl w).alloc _).trans hxm
              obtain ⟨bw, ow, eA, _, hbw, h1, h2, h3⟩ := (Ht.out.ext hxw (Nat.le_refl _)).at_ hmn
              subst eA
              have hbr : bw < wr.heap.size := Nat.lt_of_lt_of_le hbw hxw.size
              obtain ⟨⟨a0, a1⟩, ⟨b0, b1⟩, hne, d0, d1⟩ := Hwy.out m hmn
              obtain ⟨x, hxx⟩ : ∃ x, wyAt L.wy m = x := ⟨_, rfl⟩
              have HW1 := Lib.hid (show bfW L.wy O (m + 1) = bfS (bfW L.wy O m) x from by rw [← hxx]; rfl)
              rw [hxx] at h1 h2 h3 a0 a1 b0 b1 hne d0 d1
              clear hxx
              have a2 : x.a < (j : Int) := by omega
              have b2 : x.b < (j : Int) := by omega
              have ya : x.a.toNat < j := by omega
              have yb : x.b.toNat < j := by omega
              obtain ⟨o, ho⟩ : ∃ o, bfW L.wy O m = o := ⟨_, rfl⟩
              rw [ho] at HV HA HW1
              clear ho
              have hx3 := hxm
              have HBt := Lib.hid (Boxed.new wr [.int .i64 x.a, .int .i64 x.b, .int .i64 x.d] 225)
              have hgw0 : w.heap.size + 1 < wr.heap.size := HV.out.1
              have hgm := HV.out.1
              have hgm1 : w.heap.size + 1 < wr.heap.size + 1 := by omega
              obtain ⟨v1, v2⟩ := HA.out x.a.toNat ya
              obtain ⟨v3, v4⟩ := HA.out x.b.toNat yb
              have cS : wr.cell? ⟨w.heap.size + 1, x.a.toNat, none⟩ = some (.int .i64 (o x.a.toNat)) := (HV.out.2 x.a.toNat ya).1
              have cD : wr.cell? ⟨w.heap.size + 1, x.b.toNat, none⟩ = some (.int .i64 (o x.b.toNat)) := (HV.out.2 x.b.toNat yb).1
              have W1 : IntKind.i64.wrap (o x.a.toNat + x.d) = o x.a.toNat + x.d := IntWalk.i64_in _ (by omega)
              by_cases t1 : 0 ≤ o x.a.toNat
              case neg =>
                have D1 : decide (0 ≤ o x.a.toNat) = false := decide_eq_false t1
                have Hrl := Lib.hid (rl_no1 t1 : rlx o x.a.toNat x.b.toNat x.d = o)
                go_upto_region 14 with fail
                (refine wp_region_onto prog_mixed (by kernel_rfl) ?_; (repeat (go_big_quiet_step ((fail)))); refine onto_end ?_; intro wq1 hq1)
                have hxq1 : Ext wr wq1 := (by repeat (first | exact Ext.refl _ | assumption | refine Ext.alloc ?_ _ | refine Ext.drew ?_ | refine Ext.drewN ?_ _ | refine Ext.setCell ?_ (by first | (simp; done) | (simp; omega) | omega) _ | refine Ext.trans ?_ (by assumption)))
                have HBt1 := Lib.hid (HBt.out.ext (show Ext (wr.alloc (.cells #[.int .i64 x.a, .int .i64 x.b, .int .i64 x.d] 225)) wq1 from (by repeat (first | exact Ext.refl _ | assumption | refine Ext.alloc ?_ _ | refine Ext.drew ?_ | refine Ext.drewN ?_ _ | refine Ext.setCell ?_ (by first | (simp; done) | (simp; omega) | omega) _ | refine Ext.trans ?_ (by assumption)))))
                have Hbx1 := Lib.hid (Hbx.out.ext hxq1)
                have HV1 := Lib.hid (show Blk wq1 (w.heap.size + 1) j (vcC (rlx o x.a.toNat x.b.toNat x.d)) from by rw [Hrl.out]; exact HV.out.ext hxq1)
                have hx1n := hxm.trans hxq1
                clear cS cD W1 v1 v2 v3 v4 hgm hgm1 bx0 bx1 bxg bxg1 h1 h2 h3
                clear Hrl
                clear D1
                have HA1 := Lib.hid (HA.out.rlx (b := x.b.toNat) ya d0 d1 (by omega))
                obtain ⟨o1, ho1⟩ : ∃ o', rlx o x.a.toNat x.b.toNat x.d = o' := ⟨_, rfl⟩
                have HO1 := Lib.hid ho1
                rw [ho1] at HV1 HA1
                clear ho1
                obtain ⟨v1, v2⟩ := HA1.out x.b.toNat yb
                obtain ⟨v3, v4⟩ := HA1.out x.a.toNat ya
                have cS : wq1.cell? ⟨w.heap.size + 1, x.b.toNat, none⟩ = some (.int .i64 (o1 x.b.toNat)) := (HV1.out.2 x.b.toNat yb).1
                have cD : wq1.cell? ⟨w.heap.size + 1, x.a.toNat, none⟩ = some (.int .i64 (o1 x.a.toNat)) := (HV1.out.2 x.a.toNat ya).1
                have W1 : IntKind.i64.wrap (o1 x.b.toNat + x.d) = o1 x.b.toNat + x.d := IntWalk.i64_in _ (by omega)
                have bx0 := Hbx1.out.at0
                have bx1 := Hbx1.out.at1
                have bxg := Hbx1.out.1
                have bt0 := HBt1.out.at0
                have bt1 := HBt1.out.at1
                have bt2 := HBt1.out.at2
                have btg := HBt1.out.1
                have hgm := HV1.out.1
                by_cases t1 : 0 ≤ o1 x.b.toNat
                case neg =>
                  have D1 : decide (0 ≤ o1 x.b.toNat) = false := decide_eq_false t1
                  have Hrl := Lib.hid (rl_no1 t1 : rlx o1 x.b.toNat x.a.toNat x.d = o1)
                  go_upto_region 16 with fail
                  (refine wp_region_onto prog_mixed (by kernel_rfl) ?_; (repeat (go_big_quiet_step ((fail)))); refine onto_end ?_; intro wq2 hq2)
                  have hxq2 : Ext wq1 wq2 := (by repeat (first | exact Ext.refl _ | assumption | refine Ext.alloc ?_ _ | refine Ext.drew ?_ | refine Ext.drewN ?_ _ | refine Ext.setCell ?_ (by first | (simp; done) | (simp; omega) | omega) _ | refine Ext.trans ?_ (by assumption)))
                  have HBt2 := Lib.hid (HBt1.out.ext hxq2)
                  have Hbx2 := Lib.hid (Hbx1.out.ext hxq2)
                  have HV2 := Lib.hid (show Blk wq2 (w.heap.size + 1) j (vcC (rlx o1 x.b.toNat x.a.toNat x.d)) from by rw [Hrl.out]; exact HV1.out.ext hxq2)
                  have hx2n := hx1n.trans hxq2
                  clear cS cD W1 v1 v2 v3 v4 hgm bx0 bx1 bxg bt0 bt1 bt2 btg
                  clear Hrl
                  clear D1
                  go_wp2_with fail
                  go_roundg (L.wy.length - (m + 1))
                  case measure => omega
                  case rel => exact ⟨m + 1, by omega, by go_num, hx2n, Lib.hid (by rw [HW1.out]; unfold bfS; rw [HO1.out]; exact HV2.out), Lib.hid (by
                    have h9 := HA1.out.rlx (b := x.a.toNat) yb d0 d1 (by omega)
                    rw [HW1.out]
                    unfold bfS
                    rw [HO1.out]
                    intro i hi
                    have := h9 i hi
                    omega)⟩
                have D1 : decide (0 ≤ o1 x.b.toNat) = true := decide_eq_true t1
                by_cases t2 : o1 x.a.toNat < 0
                case pos =>
                  have D2 : decide (o1 x.a.toNat < 0) = true := decide_eq_true t2
                  have Hrl := Lib.hid (rl_yes1 t1 t2 : rlx o1 x.b.toNat x.a.toNat x.d = set1 o1 x.a.toNat (o1 x.b.toNat + x.d))
                  go_upto_region 16 with fail
                  (refine wp_region_onto prog_mixed (by kernel_rfl) ?_; (repeat (go_big_quiet_step ((fail)))); refine onto_end ?_; intro wq2 hq2)
                  have hxq2 : Ext wq1 wq2 := (by repeat (first | exact Ext.refl _ | assumption | refine Ext.alloc ?_ _ | refine Ext.drew ?_ | refine Ext.drewN ?_ _ | refine Ext.setCell ?_ (by first | (simp; done) | (simp; omega) | omega) _ | refine Ext.trans ?_ (by assumption)))
                  have HBq := Lib.hid (HBt1.out.ext hxq2)
                  have HVq := Lib.hid (HV1.out.ext hxq2)
                  clear cS cD W1 v1 v2 v3 v4 hgm bx0 bx1 bxg bt0 bt1 bt2 btg
                  have cS : wq2.cell? ⟨w.heap.size + 1, x.b.toNat, none⟩ = some (.int .i64 (o1 x.b.toNat)) := (HVq.out.2 x.b.toNat yb).1
                  have bt0 := HBq.out.at0
                  have bt1 := HBq.out.at1
                  have bt2 := HBq.out.at2
                  have btg := HBq.out.1
                  have hgm := HVq.out.1
                  obtain ⟨v1, v2⟩ := HA1.out x.b.toNat yb
                  have W1 : IntKind.i64.wrap (o1 x.b.toNat + x.d) = o1 x.b.toNat + x.d := IntWalk.i64_in _ (by omega)
                  go_upto_region 17 with fail
                  (refine wp_region_last prog_mixed rfl (by kernel_rfl) (by kernel_rfl) (by kernel_rfl) (by kernel_rfl) ?_; simp only [List.dropLast_cons_cons, List.dropLast_singleton]; (repeat (go_big_quiet_step ((fail)))); refine last_end ?_; intro ws2 hs2; dsimp only [List.getLast])
                  have hxs2 : Ext wq2 ws2 := (by repeat (first | exact Ext.refl _ | assumption | refine Ext.alloc ?_ _ | refine Ext.drew ?_ | refine Ext.drewN ?_ _ | refine Ext.setCell ?_ (by first | (simp; done) | (simp; omega) | omega) _ | refine Ext.trans ?_ (by assumption)))
                  have HVs := Lib.hid (HVq.out.ext hxs2)
                  have n1 : ws2.cell? ⟨w.heap.size + 1, x.a.toNat, none⟩ = some (.int .i64 (o1 x.a.toNat)) := (HVs.out.2 x.a.toNat ya).1
                  have n2 := (HVs.out.2 x.a.toNat ya).2
                  clear bt0 bt1 bt2 btg cS hgm v1 v2
                  have hgm := HVs.out.1
                  have HV2 := Lib.hid (show Blk (ws2.setCell ⟨w.heap.size + 1, x.a.toNat, none⟩ (.int .i64 (o1 x.b.toNat + x.d))) (w.heap.size + 1) j (vcC (rlx o1 x.b.toNat x.a.toNat x.d)) from by rw [Hrl.out]; exact HVs.out.setV x.a.toNat (o1 x.b.toNat + x.d) ya)
                  have HBt2 := Lib.hid ((HBq.out.ext hxs2).setOther (p := ⟨w.heap.size + 1, x.a.toNat, none⟩) (by show wr.heap.size ≠ w.heap.size + 1; omega) (.int .i64 (o1 x.b.toNat + x.d)))
                  have Hbx2 := Lib.hid (((Hbx1.out.ext hxq2).ext hxs2).setOther (p := ⟨w.heap.size + 1, x.a.toNat, none⟩) (by show w.heap.size ≠ w.heap.size + 1; omega) (.int .i64 (o1 x.b.toNat + x.d)))
                  have hx2n : Ext (w.alloc (.cells #[.slice Ap j cp, .slice (some ⟨bw, ow, none⟩) L.wy.length ct] 69)) (ws2.setCell ⟨w.heap.size + 1, x.a.toNat, none⟩ (.int .i64 (o1 x.b.toNat + x.d))) := ((hx1n.trans hxq2).trans hxs2).setCell (by rw [World.size_alloc]; exact Nat.le_refl _) _
                  clear HVs HBq HVq Hrl
                  clear D1 D2
                  go_wp2_with fail
                  go_roundg (L.wy.length - (m + 1))
                  case measure => omega
                  case rel => exact ⟨m + 1, by omega, by go_num, hx2n, Lib.hid (by rw [HW1.out]; unfold bfS; rw [HO1.out]; exact HV2.out), Lib.hid (by
                    have h9 := HA1.out.rlx (b := x.a.toNat) yb d0 d1 (by omega)
                    rw [HW1.out]
                    unfold bfS
                    rw [HO1.out]
                    intro i hi
                    have := h9 i hi
                    omega)⟩
                have D2 : decide (o1 x.a.toNat < 0) = false := decide_eq_false t2
                by_cases t3 : o1 x.b.toNat + x.d < o1 x.a.toNat
                case pos =>
                  have D3 : decide (o1 x.b.toNat + x.d < o1 x.a.toNat) = true := decide_eq_true t3
                  have Hrl := Lib.hid (rl_yes2 t1 t3 : rlx o1 x.b.toNat x.a.toNat x.d = set1 o1 x.a.toNat (o1 x.b.toNat + x.d))
                  go_upto_region 16 with fail
                  (refine wp_region_onto prog_mixed (by kernel_rfl) ?_; (repeat (go_big_quiet_step ((fail)))); refine onto_end ?_; intro wq2 hq2)
                  have hxq2 : Ext wq1 wq2 := (by repeat (first | exact Ext.refl _ | assumption | refine Ext.alloc ?_ _ | refine Ext.drew ?_ | refine Ext.drewN ?_ _ | refine Ext.setCell ?_ (by first | (simp; done) | (simp; omega) | omega) _ | refine Ext.trans ?_ (by assumption)))
                  have HBq := Lib.hid (HBt1.out.ext hxq2)
                  have HVq := Lib.hid (HV1.out.ext hxq2)
                  clear cS cD W1 v1 v2 v3 v4 hgm bx0 bx1 bxg bt0 bt1 bt2 btg
                  have cS : wq2.cell? ⟨w.heap.size + 1, x.b.toNat, none⟩ = some (.int .i64 (o1 x.b.toNat)) := (HVq.out.2 x.b.toNat yb).1
                  have bt0 := HBq.out.at0
                  have bt1 := HBq.out.at1
                  have bt2 := HBq.out.at2
                  have btg := HBq.out.1
                  have hgm := HVq.out.1
                  obtain ⟨v1, v2⟩ := HA1.out x.b.toNat yb
                  have W1 : IntKind.i64.wrap (o1 x.b.toNat + x.d) = o1 x.b.toNat + x.d := IntWalk.i64_in _ (by omega)
                  go_upto_region 17 with fail
                  (refine wp_region_last prog_mixed rfl (by kernel_rfl) (by kernel_rfl) (by kernel_rfl) (by kernel_rfl) ?_; simp only [List.dropLast_cons_cons, List.dropLast_singleton]; (repeat (go_big_quiet_step ((fail)))); refine last_end ?_; intro ws2 hs2; dsimp only [List.getLast])
                  have hxs2 : Ext wq2 ws2 := (by repeat (first | exact Ext.refl _ | assumption | refine Ext.alloc ?_ _ | refine Ext.drew ?_ | refine Ext.drewN ?_ _ | refine Ext.setCell ?_ (by first | (simp; done) | (simp; omega) | omega) _ | refine Ext.trans ?_ (by assumption)))
                  have HVs := Lib.hid (HVq.out.ext hxs2)
                  have n1 : ws2.cell? ⟨w.heap.size + 1, x.a.toNat, none⟩ = some (.int .i64 (o1 x.a.toNat)) := (HVs.out.2 x.a.toNat ya).1
                  have n2 := (HVs.out.2 x.a.toNat ya).2
                  clear bt0 bt1 bt2 btg cS hgm v1 v2
                  have hgm := HVs.out.1
                  have HV2 := Lib.hid (show Blk (ws2.setCell ⟨w.heap.size + 1, x.a.toNat, none⟩ (.int .i64 (o1 x.b.toNat + x.d))) (w.heap.size + 1) j (vcC (rlx o1 x.b.toNat x.a.toNat x.d)) from by rw [Hrl.out]; exact HVs.out.setV x.a.toNat (o1 x.b.toNat + x.d) ya)
                  have HBt2 := Lib.hid ((HBq.out.ext hxs2).setOther (p := ⟨w.heap.size + 1, x.a.toNat, none⟩) (by show wr.heap.size ≠ w.heap.size + 1; omega) (.int .i64 (o1 x.b.toNat + x.d)))
                  have Hbx2 := Lib.hid (((Hbx1.out.ext hxq2).ext hxs2).setOther (p := ⟨w.heap.size + 1, x.a.toNat, none⟩) (by show w.heap.size ≠ w.heap.size + 1; omega) (.int .i64 (o1 x.b.toNat + x.d)))
                  have hx2n : Ext (w.alloc (.cells #[.slice Ap j cp, .slice (some ⟨bw, ow, none⟩) L.wy.length ct] 69)) (ws2.setCell ⟨w.heap.size + 1, x.a.toNat, none⟩ (.int .i64 (o1 x.b.toNat + x.d))) := ((hx1n.trans hxq2).trans hxs2).setCell (by rw [World.size_alloc]; exact Nat.le_refl _) _
                  clear HVs HBq HVq Hrl
                  clear D1 D2 D3
                  go_wp2_with fail
                  go_roundg (L.wy.length - (m + 1))
                  case measure => omega
                  case rel => exact ⟨m + 1, by omega, by go_num, hx2n, Lib.hid (by rw [HW1.out]; unfold bfS; rw [HO1.out]; exact HV2.out), Lib.hid (by
                    have h9 := HA1.out.rlx (b := x.a.toNat) yb d0 d1 (by omega)
                    rw [HW1.out]
                    unfold bfS
                    rw [HO1.out]
                    intro i hi
                    have := h9 i hi
                    omega)⟩
                have D3 : decide (o1 x.b.toNat + x.d < o1 x.a.toNat) = false := decide_eq_false t3
                have Hrl := Lib.hid (rl_no2 t2 t3 : rlx o1 x.b.toNat x.a.toNat x.d = o1)
                go_upto_region 16 with fail
                (refine wp_region_onto prog_mixed (by kernel_rfl) ?_; (repeat (go_big_quiet_step ((fail)))); refine onto_end ?_; intro wq2 hq2)
                have hxq2 : Ext wq1 wq2 := (by repeat (first | exact Ext.refl _ | assumption | refine Ext.alloc ?_ _ | refine Ext.drew ?_ | refine Ext.drewN ?_ _ | refine Ext.setCell ?_ (by first | (simp; done) | (simp; omega) | omega) _ | refine Ext.trans ?_ (by assumption)))
                have HBt2 := Lib.hid (HBt1.out.ext hxq2)
                have Hbx2 := Lib.hid (Hbx1.out.ext hxq2)
                have HV2 := Lib.hid (show Blk wq2 (w.heap.size + 1) j (vcC (rlx o1 x.b.toNat x.a.toNat x.d)) from by rw [Hrl.out]; exact HV1.out.ext hxq2)
                have hx2n := hx1n.trans hxq2
                clear cS cD W1 v1 v2 v3 v4 hgm bx0 bx1 bxg bt0 bt1 bt2 btg
                clear Hrl
                clear D1 D2 D3
                go_wp2_with fail
                go_roundg (L.wy.length - (m + 1))
                case measure => omega
                case rel => exact ⟨m + 1, by omega, by go_num, hx2n, Lib.hid (by rw [HW1.out]; unfold bfS; rw [HO1.out]; exact HV2.out), Lib.hid (by
                  have h9 := HA1.out.rlx (b := x.a.toNat) yb d0 d1 (by omega)
                  rw [HW1.out]
                  unfold bfS
                  rw [HO1.out]
                  intro i hi
                  have := h9 i hi
                  omega)⟩
              have D1 : decide (0 ≤ o x.a.toNat) = true := decide_eq_true t1
              by_cases t2 : o x.b.toNat < 0
              case pos =>
                have D2 : decide (o x.b.toNat < 0) = true := decide_eq_true t2
                have Hrl := Lib.hid (rl_yes1 t1 t2 : rlx o x.a.toNat x.b.toNat x.d = set1 o x.b.toNat (o x.a.toNat + x.d))
                go_upto_region 14 with fail
                (refine wp_region_onto prog_mixed (by kernel_rfl) ?_; (repeat (go_big_quiet_step ((fail)))); refine onto_end ?_; intro wq1 hq1)
                have hxq1 : Ext wr wq1 := (by repeat (first | exact Ext.refl _ | assumption | refine Ext.alloc ?_ _ | refine Ext.drew ?_ | refine Ext.drewN ?_ _ | refine Ext.setCell ?_ (by first | (simp; done) | (simp; omega) | omega) _ | refine Ext.trans ?_ (by assumption)))
                have HBq := Lib.hid (HBt.out.ext (show Ext (wr.alloc (.cells #[.int .i64 x.a, .int .i64 x.b, .int .i64 x.d] 225)) wq1 from (by repeat (first | exact Ext.refl _ | assumption | refine Ext.alloc ?_ _ | refine Ext.drew ?_ | refine Ext.drewN ?_ _ | refine Ext.setCell ?_ (by first | (simp; done) | (simp; omega) | omega) _ | refine Ext.trans ?_ (by assumption)))))
                have HVq := Lib.hid (HV.out.ext hxq1)
                clear cS cD W1 v1 v2 v3 v4 hgm hgm1 bx0 bx1 bxg bxg1 h1 h2 h3
                have cS : wq1.cell? ⟨w.heap.size + 1, x.a.toNat, none⟩ = some (.int .i64 (o x.a.toNat)) := (HVq.out.2 x.a.toNat ya).1
                have bt0 := HBq.out.at0
                have bt1 := HBq.out.at1
                have bt2 := HBq.out.at2
                have btg := HBq.out.1
                have hgm := HVq.out.1
                obtain ⟨v1, v2⟩ := HA.out x.a.toNat ya
                have W1 : IntKind.i64.wrap (o x.a.toNat + x.d) = o x.a.toNat + x.d := IntWalk.i64_in _ (by omega)
                go_upto_region 15 with fail
                (refine wp_region_last prog_mixed rfl (by kernel_rfl) (by kernel_rfl) (by kernel_rfl) (by kernel_rfl) ?_; simp only [List.dropLast_cons_cons, List.dropLast_singleton]; (repeat (go_big_quiet_step ((fail)))); refine last_end ?_; intro ws1 hs1; dsimp only [List.getLast])
                have hxs1 : Ext wq1 ws1 := (by repeat (first | exact Ext.refl _ | assumption | refine Ext.alloc ?_ _ | refine Ext.drew ?_ | refine Ext.drewN ?_ _ | refine Ext.setCell ?_ (by first | (simp; done) | (simp; omega) | omega) _ | refine Ext.trans ?_ (by assumption)))
                have HVs := Lib.hid (HVq.out.ext hxs1)
                have n1 : ws1.cell? ⟨w.heap.size + 1, x.b.toNat, none⟩ = some (.int .i64 (o x.b.toNat)) := (HVs.out.2 x.b.toNat yb).1
                have n2 := (HVs.out.2 x.b.toNat yb).2
                clear bt0 bt1 bt2 btg cS hgm v1 v2
                have hgm := HVs.out.1
                have HV1 := Lib.hid (show Blk (ws1.setCell ⟨w.heap.size + 1, x.b.toNat, none⟩ (.int .i64 (o x.a.toNat + x.d))) (w.heap.size + 1) j (vcC (rlx o x.a.toNat x.b.toNat x.d)) from by rw [Hrl.out]; exact HVs.out.setV x.b.toNat (o x.a.toNat + x.d) yb)
                have HBt1 := Lib.hid ((HBq.out.ext hxs1).setOther (p := ⟨w.heap.size + 1, x.b.toNat, none⟩) (by show wr.heap.size ≠ w.heap.size + 1; omega) (.int .i64 (o x.a.toNat + x.d)))
                have Hbx1 := Lib.hid (((Hbx.out.ext hxq1).ext hxs1).setOther (p := ⟨w.heap.size + 1, x.b.toNat, none⟩) (by show w.heap.size ≠ w.heap.size + 1; omega) (.int .i64 (o x.a.toNat + x.d)))
                have hx1n : Ext (w.alloc (.cells #[.slice Ap j cp, .slice (some ⟨bw, ow, none⟩) L.wy.length ct] 69)) (ws1.setCell ⟨w.heap.size + 1, x.b.toNat, none⟩ (.int .i64 (o x.a.toNat + x.d))) := ((hxm.trans hxq1).trans hxs1).setCell (by rw [World.size_alloc]; exact Nat.le_refl _) _
                clear HVs HBq HVq Hrl
                clear D1 D2
                go_upto_region 16 with fail
                clear n1 n2 W1 hgm
                generalize (ws1.setCell ⟨w.heap.size + 1, x.b.toNat, none⟩ (.int .i64 (o x.a.toNat + x.d))) = wt1 at *
                have HA1 := Lib.hid (HA.out.rlx (b := x.b.toNat) ya d0 d1 (by omega))
                obtain ⟨o1, ho1⟩ : ∃ o', rlx o x.a.toNat x.b.toNat x.d = o' := ⟨_, rfl⟩
                have HO1 := Lib.hid ho1
                rw [ho1] at HV1 HA1
                clear ho1
                obtain ⟨v1, v2⟩ := HA1.out x.b.toNat yb
                obtain ⟨v3, v4⟩ := HA1.out x.a.toNat ya
                have cS : wt1.cell? ⟨w.heap.size + 1, x.b.toNat, none⟩ = some (.int .i64 (o1 x.b.toNat)) := (HV1.out.2 x.b.toNat yb).1
                have cD : wt1.cell? ⟨w.heap.size + 1, x.a.toNat, none⟩ = some (.int .i64 (o1 x.a.toNat)) := (HV1.out.2 x.a.toNat ya).1
                have W1 : IntKind.i64.wrap (o1 x.b.toNat + x.d) = o1 x.b.toNat + x.d := IntWalk.i64_in _ (by omega)
                have bx0 := Hbx1.out.at0
                have bx1 := Hbx1.out.at1
                have bxg := Hbx1.out.1
                have bt0 := HBt1.out.at0
                have bt1 := HBt1.out.at1
                have bt2 := HBt1.out.at2
                have btg := HBt1.out.1
                have hgm := HV1.out.1
                by_cases t1 : 0 ≤ o1 x.b.toNat
                case neg =>
                  have D1 : decide (0 ≤ o1 x.b.toNat) = false := decide_eq_false t1
                  have Hrl := Lib.hid (rl_no1 t1 : rlx o1 x.b.toNat x.a.toNat x.d = o1)
                  go_upto_region 16 with fail
                  (refine wp_region_onto prog_mixed (by kernel_rfl) ?_; (repeat (go_big_quiet_step ((fail)))); refine onto_end ?_; intro wq3 hq3)
                  have hxq3 : Ext wt1 wq3 := (by repeat (first | exact Ext.refl _ | assumption | refine Ext.alloc ?_ _ | refine Ext.drew ?_ | refine Ext.drewN ?_ _ | refine Ext.setCell ?_ (by first | (simp; done) | (simp; omega) | omega) _ | refine Ext.trans ?_ (by assumption)))
                  have HBt3 := Lib.hid (HBt1.out.ext hxq3)
                  have Hbx3 := Lib.hid (Hbx1.out.ext hxq3)
                  have HV3 := Lib.hid (show Blk wq3 (w.heap.size + 1) j (vcC (rlx o1 x.b.toNat x.a.toNat x.d)) from by rw [Hrl.out]; exact HV1.out.ext hxq3)
                  have hx3n := hx1n.trans hxq3
                  clear cS cD W1 v1 v2 v3 v4 hgm bx0 bx1 bxg bt0 bt1 bt2 btg
                  clear Hrl
                  clear D1
                  go_wp2_with fail
                  go_roundg (L.wy.length - (m + 1))
                  case measure => omega
                  case rel => exact ⟨m + 1, by omega, by go_num, hx3n, Lib.hid (by rw [HW1.out]; unfold bfS; rw [HO1.out]; exact HV3.out), Lib.hid (by
                    have h9 := HA1.out.rlx (b := x.a.toNat) yb d0 d1 (by omega)
                    rw [HW1.out]
                    unfold bfS
                    rw [HO1.out]
                    intro i hi
                    have := h9 i hi
                    omega)⟩
                have D1 : decide (0 ≤ o1 x.b.toNat) = true := decide_eq_true t1
                by_cases t2 : o1 x.a.toNat < 0
                case pos =>
                  have D2 : decide (o1 x.a.toNat < 0) = true := decide_eq_true t2
                  have Hrl := Lib.hid (rl_yes1 t1 t2 : rlx o1 x.b.toNat x.a.toNat x.d = set1 o1 x.a.toNat (o1 x.b.toNat + x.d))
                  go_upto_region 16 with fail
                  (refine wp_region_onto prog_mixed (by kernel_rfl) ?_; (repeat (go_big_quiet_step ((fail)))); refine onto_end ?_; intro wq3 hq3)
                  have hxq3 : Ext wt1 wq3 := (by repeat (first | exact Ext.refl _ | assumption | refine Ext.alloc ?_ _ | refine Ext.drew ?_ | refine Ext.drewN ?_ _ | refine Ext.setCell ?_ (by first | (simp; done) | (simp; omega) | omega) _ | refine Ext.trans ?_ (by assumption)))
                  have HBq := Lib.hid (HBt1.out.ext hxq3)
                  have HVq := Lib.hid (HV1.out.ext hxq3)
                  clear cS cD W1 v1 v2 v3 v4 hgm bx0 bx1 bxg bt0 bt1 bt2 btg
                  have cS : wq3.cell? ⟨w.heap.size + 1, x.b.toNat, none⟩ = some (.int .i64 (o1 x.b.toNat)) := (HVq.out.2 x.b.toNat yb).1
                  have bt0 := HBq.out.at0
                  have bt1 := HBq.out.at1
                  have bt2 := HBq.out.at2
                  have btg := HBq.out.1
                  have hgm := HVq.out.1
                  obtain ⟨v1, v2⟩ := HA1.out x.b.toNat yb
                  have W1 : IntKind.i64.wrap (o1 x.b.toNat + x.d) = o1 x.b.toNat + x.d := IntWalk.i64_in _ (by omega)
                  go_upto_region 17 with fail
                  (refine wp_region_last prog_mixed rfl (by kernel_rfl) (by kernel_rfl) (by kernel_rfl) (by kernel_rfl) ?_; simp only [List.dropLast_cons_cons, List.dropLast_singleton]; (repeat (go_big_quiet_step ((fail)))); refine last_end ?_; intro ws3 hs3; dsimp only [List.getLast])
                  have hxs3 : Ext wq3 ws3 := (by repeat (first | exact Ext.refl _ | assumption | refine Ext.alloc ?_ _ | refine Ext.drew ?_ | refine Ext.drewN ?_ _ | refine Ext.setCell ?_ (by first | (simp; done) | (simp; omega) | omega) _ | refine Ext.trans ?_ (by assumption)))
                  have HVs := Lib.hid (HVq.out.ext hxs3)
                  have n1 : ws3.cell? ⟨w.heap.size + 1, x.a.toNat, none⟩ = some (.int .i64 (o1 x.a.toNat)) := (HVs.out.2 x.a.toNat ya).1
                  have n2 := (HVs.out.2 x.a.toNat ya).2
                  clear bt0 bt1 bt2 btg cS hgm v1 v2
                  have hgm := HVs.out.1
                  have HV3 := Lib.hid (show Blk (ws3.setCell ⟨w.heap.size + 1, x.a.toNat, none⟩ (.int .i64 (o1 x.b.toNat + x.d))) (w.heap.size + 1) j (vcC (rlx o1 x.b.toNat x.a.toNat x.d)) from by rw [Hrl.out]; exact HVs.out.setV x.a.toNat (o1 x.b.toNat + x.d) ya)
                  have HBt3 := Lib.hid ((HBq.out.ext hxs3).setOther (p := ⟨w.heap.size + 1, x.a.toNat, none⟩) (by show wr.heap.size ≠ w.heap.size + 1; omega) (.int .i64 (o1 x.b.toNat + x.d)))
                  have Hbx3 := Lib.hid (((Hbx1.out.ext hxq3).ext hxs3).setOther (p := ⟨w.heap.size + 1, x.a.toNat, none⟩) (by show w.heap.size ≠ w.heap.size + 1; omega) (.int .i64 (o1 x.b.toNat + x.d)))
                  have hx3n : Ext (w.alloc (.cells #[.slice Ap j cp, .slice (some ⟨bw, ow, none⟩) L.wy.length ct] 69)) (ws3.setCell ⟨w.heap.size + 1, x.a.toNat, none⟩ (.int .i64 (o1 x.b.toNat + x.d))) := ((hx1n.trans hxq3).trans hxs3).setCell (by rw [World.size_alloc]; exact Nat.le_refl _) _
                  clear HVs HBq HVq Hrl
                  clear D1 D2
                  go_wp2_with fail
                  go_roundg (L.wy.length - (m + 1))
                  case measure => omega
                  case rel => exact ⟨m + 1, by omega, by go_num, hx3n, Lib.hid (by rw [HW1.out]; unfold bfS; rw [HO1.out]; exact HV3.out), Lib.hid (by
                    have h9 := HA1.out.rlx (b := x.a.toNat) yb d0 d1 (by omega)
                    rw [HW1.out]
                    unfold bfS
                    rw [HO1.out]
                    intro i hi
                    have := h9 i hi
                    omega)⟩
                have D2 : decide (o1 x.a.toNat < 0) = false := decide_eq_false t2
                by_cases t3 : o1 x.b.toNat + x.d < o1 x.a.toNat
                case pos =>
                  have D3 : decide (o1 x.b.toNat + x.d < o1 x.a.toNat) = true := decide_eq_true t3
                  have Hrl := Lib.hid (rl_yes2 t1 t3 : rlx o1 x.b.toNat x.a.toNat x.d = set1 o1 x.a.toNat (o1 x.b.toNat + x.d))
                  go_upto_region 16 with fail
                  (refine wp_region_onto prog_mixed (by kernel_rfl) ?_; (repeat (go_big_quiet_step ((fail)))); refine onto_end ?_; intro wq3 hq3)
                  have hxq3 : Ext wt1 wq3 := (by repeat (first | exact Ext.refl _ | assumption | refine Ext.alloc ?_ _ | refine Ext.drew ?_ | refine Ext.drewN ?_ _ | refine Ext.setCell ?_ (by first | (simp; done) | (simp; omega) | omega) _ | refine Ext.trans ?_ (by assumption)))
                  have HBq := Lib.hid (HBt1.out.ext hxq3)
                  have HVq := Lib.hid (HV1.out.ext hxq3)
                  clear cS cD W1 v1 v2 v3 v4 hgm bx0 bx1 bxg bt0 bt1 bt2 btg
                  have cS : wq3.cell? ⟨w.heap.size + 1, x.b.toNat, none⟩ = some (.int .i64 (o1 x.b.toNat)) := (HVq.out.2 x.b.toNat yb).1
                  have bt0 := HBq.out.at0
                  have bt1 := HBq.out.at1
                  have bt2 := HBq.out.at2
                  have btg := HBq.out.1
                  have hgm := HVq.out.1
                  obtain ⟨v1, v2⟩ := HA1.out x.b.toNat yb
                  have W1 : IntKind.i64.wrap (o1 x.b.toNat + x.d) = o1 x.b.toNat + x.d := IntWalk.i64_in _ (by omega)
                  go_upto_region 17 with fail
                  (refine wp_region_last prog_mixed rfl (by kernel_rfl) (by kernel_rfl) (by kernel_rfl) (by kernel_rfl) ?_; simp only [List.dropLast_cons_cons, List.dropLast_singleton]; (repeat (go_big_quiet_step ((fail)))); refine last_end ?_; intro ws3 hs3; dsimp only [List.getLast])
                  have hxs3 : Ext wq3 ws3 := (by repeat (first | exact Ext.refl _ | assumption | refine Ext.alloc ?_ _ | refine Ext.drew ?_ | refine Ext.drewN ?_ _ | refine Ext.setCell ?_ (by first | (simp; done) | (simp; omega) | omega) _ | refine Ext.trans ?_ (by assumption)))
                  have HVs := Lib.hid (HVq.out.ext hxs3)
                  have n1 : ws3.cell? ⟨w.heap.size + 1, x.a.toNat, none⟩ = some (.int .i64 (o1 x.a.toNat)) := (HVs.out.2 x.a.toNat ya).1
                  have n2 := (HVs.out.2 x.a.toNat ya).2
                  clear bt0 bt1 bt2 btg cS hgm v1 v2
                  have hgm := HVs.out.1
                  have HV3 := Lib.hid (show Blk (ws3.setCell ⟨w.heap.size + 1, x.a.toNat, none⟩ (.int .i64 (o1 x.b.toNat + x.d))) (w.heap.size + 1) j (vcC (rlx o1 x.b.toNat x.a.toNat x.d)) from by rw [Hrl.out]; exact HVs.out.setV x.a.toNat (o1 x.b.toNat + x.d) ya)
                  have HBt3 := Lib.hid ((HBq.out.ext hxs3).setOther (p := ⟨w.heap.size + 1, x.a.toNat, none⟩) (by show wr.heap.size ≠ w.heap.size + 1; omega) (.int .i64 (o1 x.b.toNat + x.d)))
                  have Hbx3 := Lib.hid (((Hbx1.out.ext hxq3).ext hxs3).setOther (p := ⟨w.heap.size + 1, x.a.toNat, none⟩) (by show w.heap.size ≠ w.heap.size + 1; omega) (.int .i64 (o1 x.b.toNat + x.d)))
                  have hx3n : Ext (w.alloc (.cells #[.slice Ap j cp, .slice (some ⟨bw, ow, none⟩) L.wy.length ct] 69)) (ws3.setCell ⟨w.heap.size + 1, x.a.toNat, none⟩ (.int .i64 (o1 x.b.toNat + x.d))) := ((hx1n.trans hxq3).trans hxs3).setCell (by rw [World.size_alloc]; exact Nat.le_refl _) _
                  clear HVs HBq HVq Hrl
                  clear D1 D2 D3
                  go_wp2_with fail
                  go_roundg (L.wy.length - (m + 1))
                  case measure => omega
                  case rel => exact ⟨m + 1, by omega, by go_num, hx3n, Lib.hid (by rw [HW1.out]; unfold bfS; rw [HO1.out]; exact HV3.out), Lib.hid (by
                    have h9 := HA1.out.rlx (b := x.a.toNat) yb d0 d1 (by omega)
                    rw [HW1.out]
                    unfold bfS
                    rw [HO1.out]
                    intro i hi
                    have := h9 i hi
                    omega)⟩
                have D3 : decide (o1 x.b.toNat + x.d < o1 x.a.toNat) = false := decide_eq_false t3
                have Hrl := Lib.hid (rl_no2 t2 t3 : rlx o1 x.b.toNat x.a.toNat x.d = o1)
                go_upto_region 16 with fail
                (refine wp_region_onto prog_mixed (by kernel_rfl) ?_; (repeat (go_big_quiet_step ((fail)))); refine onto_end ?_; intro wq3 hq3)
                have hxq3 : Ext wt1 wq3 := (by repeat (first | exact Ext.refl _ | assumption | refine Ext.alloc ?_ _ | refine Ext.drew ?_ | refine Ext.drewN ?_ _ | refine Ext.setCell ?_ (by first | (simp; done) | (simp; omega) | omega) _ | refine Ext.trans ?_ (by assumption)))
                have HBt3 := Lib.hid (HBt1.out.ext hxq3)
                have Hbx3 := Lib.hid (Hbx1.out.ext hxq3)
                have HV3 := Lib.hid (show Blk wq3 (w.heap.size + 1) j (vcC (rlx o1 x.b.toNat x.a.toNat x.d)) from by rw [Hrl.out]; exact HV1.out.ext hxq3)
                have hx3n := hx1n.trans hxq3
                clear cS cD W1 v1 v2 v3 v4 hgm bx0 bx1 bxg bt0 bt1 bt2 btg
                clear Hrl
                clear D1 D2 D3
                go_wp2_with fail
                go_roundg (L.wy.length - (m + 1))
                case measure => omega
                case rel => exact ⟨m + 1, by omega, by go_num, hx3n, Lib.hid (by rw [HW1.out]; unfold bfS; rw [HO1.out]; exact HV3.out), Lib.hid (by
                  have h9 := HA1.out.rlx (b := x.a.toNat) yb d0 d1 (by omega)
                  rw [HW1.out]
                  unfold bfS
                  rw [HO1.out]
                  intro i hi
                  have := h9 i hi
                  omega)⟩
              have D2 : decide (o x.b.toNat < 0) = false := decide_eq_false t2
              by_cases t3 : o x.a.toNat + x.d < o x.b.toNat
              case pos =>
                have D3 : decide (o x.a.toNat + x.d < o x.b.toNat) = true := decide_eq_true t3
                have Hrl := Lib.hid (rl_yes2 t1 t3 : rlx o x.a.toNat x.b.toNat x.d = set1 o x.b.toNat (o x.a.toNat + x.d))
                go_upto_region 14 with fail
                (refine wp_region_onto prog_mixed (by kernel_rfl) ?_; (repeat (go_big_quiet_step ((fail)))); refine onto_end ?_; intro wq1 hq1)
                have hxq1 : Ext wr wq1 := (by repeat (first | exact Ext.refl _ | assumption | refine Ext.alloc ?_ _ | refine Ext.drew ?_ | refine Ext.drewN ?_ _ | refine Ext.setCell ?_ (by first | (simp; done) | (simp; omega) | omega) _ | refine Ext.trans ?_ (by assumption)))
                have HBq := Lib.hid (HBt.out.ext (show Ext (wr.alloc (.cells #[.int .i64 x.a, .int .i64 x.b, .int .i64 x.d] 225)) wq1 from (by repeat (first | exact Ext.refl _ | assumption | refine Ext.alloc ?_ _ | refine Ext.drew ?_ | refine Ext.drewN ?_ _ | refine Ext.setCell ?_ (by first | (simp; done) | (simp; omega) | omega) _ | refine Ext.trans ?_ (by assumption)))))
                have HVq := Lib.hid (HV.out.ext hxq1)
                clear cS cD W1 v1 v2 v3 v4 hgm hgm1 bx0 bx1 bxg bxg1 h1 h2 h3
                have cS : wq1.cell? ⟨w.heap.size + 1, x.a.toNat, none⟩ = some (.int .i64 (o x.a.toNat)) := (HVq.out.2 x.a.toNat ya).1
                have bt0 := HBq.out.at0
                have bt1 := HBq.out.at1
                have bt2 := HBq.out.at2
                have btg := HBq.out.1
                have hgm := HVq.out.1
                obtain ⟨v1, v2⟩ := HA.out x.a.toNat ya
                have W1 : IntKind.i64.wrap (o x.a.toNat + x.d) = o x.a.toNat + x.d := IntWalk.i64_in _ (by omega)
                go_upto_region 15 with fail
                (refine wp_region_last prog_mixed rfl (by kernel_rfl) (by kernel_rfl) (by kernel_rfl) (by kernel_rfl) ?_; simp only [List.dropLast_cons_cons, List.dropLast_singleton]; (repeat (go_big_quiet_step ((fail)))); refine last_end ?_; intro ws1 hs1; dsimp only [List.getLast])
                have hxs1 : Ext wq1 ws1 := (by repeat (first | exact Ext.refl _ | assumption | refine Ext.alloc ?_ _ | refine Ext.drew ?_ | refine Ext.drewN ?_ _ | refine Ext.setCell ?_ (by first | (simp; done) | (simp; omega) | omega) _ | refine Ext.trans ?_ (by assumption)))
                have HVs := Lib.hid (HVq.out.ext hxs1)
                have n1 : ws1.cell? ⟨w.heap.size + 1, x.b.toNat, none⟩ = some (.int .i64 (o x.b.toNat)) := (HVs.out.2 x.b.toNat yb).1
                have n2 := (HVs.out.2 x.b.toNat yb).2
                clear bt0 bt1 bt2 btg cS hgm v1 v2
                have hgm := HVs.out.1
                have HV1 := Lib.hid (show Blk (ws1.setCell ⟨w.heap.size + 1, x.b.toNat, none⟩ (.int .i64 (o x.a.toNat + x.d))) (w.heap.size + 1) j (vcC (rlx o x.a.toNat x.b.toNat x.d)) from by rw [Hrl.out]; exact HVs.out.setV x.b.toNat (o x.a.toNat + x.d) yb)
                have HBt1 := Lib.hid ((HBq.out.ext hxs1).setOther (p := ⟨w.heap.size + 1, x.b.toNat, none⟩) (by show wr.heap.size ≠ w.heap.size + 1; omega) (.int .i64 (o x.a.toNat + x.d)))
                have Hbx1 := Lib.hid (((Hbx.out.ext hxq1).ext hxs1).setOther (p := ⟨w.heap.size + 1, x.b.toNat, none⟩) (by show w.heap.size ≠ w.heap.size + 1; omega) (.int .i64 (o x.a.toNat + x.d)))
                have hx1n : Ext (w.alloc (.cells #[.slice Ap j cp, .slice (some ⟨bw, ow, none⟩) L.wy.length ct] 69)) (ws1.setCell ⟨w.heap.size + 1, x.b.toNat, none⟩ (.int .i64 (o x.a.toNat + x.d))) := ((hxm.trans hxq1).trans hxs1).setCell (by rw [World.size_alloc]; exact Nat.le_refl _) _
                clear HVs HBq HVq Hrl
                clear D1 D2 D3
                go_upto_region 16 with fail
                clear n1 n2 W1 hgm
                generalize (ws1.setCell ⟨w.heap.size + 1, x.b.toNat, none⟩ (.int .i64 (o x.a.toNat + x.d))) = wt1 at *
                have HA1 := Lib.hid (HA.out.rlx (b := x.b.toNat) ya d0 d1 (by omega))
                obtain ⟨o1, ho1⟩ : ∃ o', rlx o x.a.toNat x.b.toNat x.d = o' := ⟨_, rfl⟩
                have HO1 := Lib.hid ho1
                rw [ho1] at HV1 HA1
                clear ho1
                obtain ⟨v1, v2⟩ := HA1.out x.b.toNat yb
                obtain ⟨v3, v4⟩ := HA1.out x.a.toNat ya
                have cS : wt1.cell? ⟨w.heap.size + 1, x.b.toNat, none⟩ = some (.int .i64 (o1 x.b.toNat)) := (HV1.out.2 x.b.toNat yb).1
                have cD : wt1.cell? ⟨w.heap.size + 1, x.a.toNat, none⟩ = some (.int .i64 (o1 x.a.toNat)) := (HV1.out.2 x.a.toNat ya).1
                have W1 : IntKind.i64.wrap (o1 x.b.toNat + x.d) = o1 x.b.toNat + x.d := IntWalk.i64_in _ (by omega)
                have bx0 := Hbx1.out.at0
                have bx1 := Hbx1.out.at1
                have bxg := Hbx1.out.1
                have bt0 := HBt1.out.at0
                have bt1 := HBt1.out.at1
                have bt2 := HBt1.out.at2
                have btg := HBt1.out.1
                have hgm := HV1.out.1
                by_cases t1 : 0 ≤ o1 x.b.toNat
                case neg =>
                  have D1 : decide (0 ≤ o1 x.b.toNat) = false := decide_eq_false t1
                  have Hrl := Lib.hid (rl_no1 t1 : rlx o1 x.b.toNat x.a.toNat x.d = o1)
                  go_upto_region 16 with fail
                  (refine wp_region_onto prog_mixed (by kernel_rfl) ?_; (repeat (go_big_quiet_step ((fail)))); refine onto_end ?_; intro wq4 hq4)
                  have hxq4 : Ext wt1 wq4 := (by repeat (first | exact Ext.refl _ | assumption | refine Ext.alloc ?_ _ | refine Ext.drew ?_ | refine Ext.drewN ?_ _ | refine Ext.setCell ?_ (by first | (simp; done) | (simp; omega) | omega) _ | refine Ext.trans ?_ (by assumption)))
                  have HBt4 := Lib.hid (HBt1.out.ext hxq4)
                  have Hbx4 := Lib.hid (Hbx1.out.ext hxq4)
                  have HV4 := Lib.hid (show Blk wq4 (w.heap.size + 1) j (vcC (rlx o1 x.b.toNat x.a.toNat x.d)) from by rw [Hrl.out]; exact HV1.out.ext hxq4)
                  have hx4n := hx1n.trans hxq4
                  clear cS cD W1 v1 v2 v3 v4 hgm bx0 bx1 bxg bt0 bt1 bt2 btg
                  clear Hrl
                  clear D1
                  go_wp2_with fail
                  go_roundg (L.wy.length - (m + 1))
                  case measure => omega
                  case rel => exact ⟨m + 1, by omega, by go_num, hx4n, Lib.hid (by rw [HW1.out]; unfold bfS; rw [HO1.out]; exact HV4.out), Lib.hid (by
                    have h9 := HA1.out.rlx (b := x.a.toNat) yb d0 d1 (by omega)
                    rw [HW1.out]
                    unfold bfS
                    rw [HO1.out]
                    intro i hi
                    have := h9 i hi
                    omega)⟩
                have D1 : decide (0 ≤ o1 x.b.toNat) = true := decide_eq_true t1
                by_cases t2 : o1 x.a.toNat < 0
                case pos =>
                  have D2 : decide (o1 x.a.toNat < 0) = true := decide_eq_true t2
                  have Hrl := Lib.hid (rl_yes1 t1 t2 : rlx o1 x.b.toNat x.a.toNat x.d = set1 o1 x.a.toNat (o1 x.b.toNat + x.d))
                  go_upto_region 16 with fail
                  (refine wp_region_onto prog_mixed (by kernel_rfl) ?_; (repeat (go_big_quiet_step ((fail)))); refine onto_end ?_; intro wq4 hq4)
                  have hxq4 : Ext wt1 wq4 := (by repeat (first | exact Ext.refl _ | assumption | refine Ext.alloc ?_ _ | refine Ext.drew ?_ | refine Ext.drewN ?_ _ | refine Ext.setCell ?_ (by first | (simp; done) | (simp; omega) | omega) _ | refine Ext.trans ?_ (by assumption)))
                  have HBq := Lib.hid (HBt1.out.ext hxq4)
                  have HVq := Lib.hid (HV1.out.ext hxq4)
                  clear cS cD W1 v1 v2 v3 v4 hgm bx0 bx1 bxg bt0 bt1 bt2 btg
                  have cS : wq4.cell? ⟨w.heap.size + 1, x.b.toNat, none⟩ = some (.int .i64 (o1 x.b.toNat)) := (HVq.out.2 x.b.toNat yb).1
                  have bt0 := HBq.out.at0
                  have bt1 := HBq.out.at1
                  have bt2 := HBq.out.at2
                  have btg := HBq.out.1
                  have hgm := HVq.out.1
                  obtain ⟨v1, v2⟩ := HA1.out x.b.toNat yb
                  have W1 : IntKind.i64.wrap (o1 x.b.toNat + x.d) = o1 x.b.toNat + x.d := IntWalk.i64_in _ (by omega)
                  go_upto_region 17 with fail
                  (refine wp_region_last prog_mixed rfl (by kernel_rfl) (by kernel_rfl) (by kernel_rfl) (by kernel_rfl) ?_; simp only [List.dropLast_cons_cons, List.dropLast_singleton]; (repeat (go_big_quiet_step ((fail)))); refine last_end ?_; intro ws4 hs4; dsimp only [List.getLast])
                  have hxs4 : Ext wq4 ws4 := (by repeat (first | exact Ext.refl _ | assumption | refine Ext.alloc ?_ _ | refine Ext.drew ?_ | refine Ext.drewN ?_ _ | refine Ext.setCell ?_ (by first | (simp; done) | (simp; omega) | omega) _ | refine Ext.trans ?_ (by assumption)))
                  have HVs := Lib.hid (HVq.out.ext hxs4)
                  have n1 : ws4.cell? ⟨w.heap.size + 1, x.a.toNat, none⟩ = some (.int .i64 (o1 x.a.toNat)) := (HVs.out.2 x.a.toNat ya).1
                  have n2 := (HVs.out.2 x.a.toNat ya).2
                  clear bt0 bt1 bt2 btg cS hgm v1 v2
                  have hgm := HVs.out.1
                  have HV4 := Lib.hid (show Blk (ws4.setCell ⟨w.heap.size + 1, x.a.toNat, none⟩ (.int .i64 (o1 x.b.toNat + x.d))) (w.heap.size + 1) j (vcC (rlx o1 x.b.toNat x.a.toNat x.d)) from by rw [Hrl.out]; exact HVs.out.setV x.a.toNat (o1 x.b.toNat + x.d) ya)
                  have HBt4 := Lib.hid ((HBq.out.ext hxs4).setOther (p := ⟨w.heap.size + 1, x.a.toNat, none⟩) (by show wr.heap.size ≠ w.heap.size + 1; omega) (.int .i64 (o1 x.b.toNat + x.d)))
                  have Hbx4 := Lib.hid (((Hbx1.out.ext hxq4).ext hxs4).setOther (p := ⟨w.heap.size + 1, x.a.toNat, none⟩) (by show w.heap.size ≠ w.heap.size + 1; omega) (.int .i64 (o1 x.b.toNat + x.d)))
                  have hx4n : Ext (w.alloc (.cells #[.slice Ap j cp, .slice (some ⟨bw, ow, none⟩) L.wy.length ct] 69)) (ws4.setCell ⟨w.heap.size + 1, x.a.toNat, none⟩ (.int .i64 (o1 x.b.toNat + x.d))) := ((hx1n.trans hxq4).trans hxs4).setCell (by rw [World.size_alloc]; exact Nat.le_refl _) _
                  clear HVs HBq HVq Hrl
                  clear D1 D2
                  go_wp2_with fail
                  go_roundg (L.wy.length - (m + 1))
                  case measure => omega
                  case rel => exact ⟨m + 1, by omega, by go_num, hx4n, Lib.hid (by rw [HW1.out]; unfold bfS; rw [HO1.out]; exact HV4.out), Lib.hid (by
                    have h9 := HA1.out.rlx (b := x.a.toNat) yb d0 d1 (by omega)
                    rw [HW1.out]
                    unfold bfS
                    rw [HO1.out]
                    intro i hi
                    have := h9 i hi
                    omega)⟩
                have D2 : decide (o1 x.a.toNat < 0) = false := decide_eq_false t2
                by_cases t3 : o1 x.b.toNat + x.d < o1 x.a.toNat
                case pos =>
                  have D3 : decide (o1 x.b.toNat + x.d < o1 x.a.toNat) = true := decide_eq_true t3
                  have Hrl := Lib.hid (rl_yes2 t1 t3 : rlx o1 x.b.toNat x.a.toNat x.d = set1 o1 x.a.toNat (o1 x.b.toNat + x.d))
                  go_upto_region 16 with fail
                  (refine wp_region_onto prog_mixed (by kernel_rfl) ?_; (repeat (go_big_quiet_step ((fail)))); refine onto_end ?_; intro wq4 hq4)
                  have hxq4 : Ext wt1 wq4 := (by repeat (first | exact Ext.refl _ | assumption | refine Ext.alloc ?_ _ | refine Ext.drew ?_ | refine Ext.drewN ?_ _ | refine Ext.setCell ?_ (by first | (simp; done) | (simp; omega) | omega) _ | refine Ext.trans ?_ (by assumption)))
                  have HBq := Lib.hid (HBt1.out.ext hxq4)
                  have HVq := Lib.hid (HV1.out.ext hxq4)
                  clear cS cD W1 v1 v2 v3 v4 hgm bx0 bx1 bxg bt0 bt1 bt2 btg
                  have cS : wq4.cell? ⟨w.heap.size + 1, x.b.toNat, none⟩ = some (.int .i64 (o1 x.b.toNat)) := (HVq.out.2 x.b.toNat yb).1
                  have bt0 := HBq.out.at0
                  have bt1 := HBq.out.at1
                  have bt2 := HBq.out.at2
                  have btg := HBq.out.1
                  have hgm := HVq.out.1
                  obtain ⟨v1, v2⟩ := HA1.out x.b.toNat yb
                  have W1 : IntKind.i64.wrap (o1 x.b.toNat + x.d) = o1 x.b.toNat + x.d := IntWalk.i64_in _ (by omega)
                  go_upto_region 17 with fail
                  (refine wp_region_last prog_mixed rfl (by kernel_rfl) (by kernel_rfl) (by kernel_rfl) (by kernel_rfl) ?_; simp only [List.dropLast_cons_cons, List.dropLast_singleton]; (repeat (go_big_quiet_step ((fail)))); refine last_end ?_; intro ws4 hs4; dsimp only [List.getLast])
                  have hxs4 : Ext wq4 ws4 := (by repeat (first | exact Ext.refl _ | assumption | refine Ext.alloc ?_ _ | refine Ext.drew ?_ | refine Ext.drewN ?_ _ | refine Ext.setCell ?_ (by first | (simp; done) | (simp; omega) | omega) _ | refine Ext.trans ?_ (by assumption)))
                  have HVs := Lib.hid (HVq.out.ext hxs4)
                  have n1 : ws4.cell? ⟨w.heap.size + 1, x.a.toNat, none⟩ = some (.int .i64 (o1 x.a.toNat)) := (HVs.out.2 x.a.toNat ya).1
                  have n2 := (HVs.out.2 x.a.toNat ya).2
                  clear bt0 bt1 bt2 btg cS hgm v1 v2
                  have hgm := HVs.out.1
                  have HV4 := Lib.hid (show Blk (ws4.setCell ⟨w.heap.size + 1, x.a.toNat, none⟩ (.int .i64 (o1 x.b.toNat + x.d))) (w.heap.size + 1) j (vcC (rlx o1 x.b.toNat x.a.toNat x.d)) from by rw [Hrl.out]; exact HVs.out.setV x.a.toNat (o1 x.b.toNat + x.d) ya)
                  have HBt4 := Lib.hid ((HBq.out.ext hxs4).setOther (p := ⟨w.heap.size + 1, x.a.toNat, none⟩) (by show wr.heap.size ≠ w.heap.size + 1; omega) (.int .i64 (o1 x.b.toNat + x.d)))
                  have Hbx4 := Lib.hid (((Hbx1.out.ext hxq4).ext hxs4).setOther (p := ⟨w.heap.size + 1, x.a.toNat, none⟩) (by show w.heap.size ≠ w.heap.size + 1; omega) (.int .i64 (o1 x.b.toNat + x.d)))
                  have hx4n : Ext (w.alloc (.cells #[.slice Ap j cp, .slice (some ⟨bw, ow, none⟩) L.wy.length ct] 69)) (ws4.setCell ⟨w.heap.size + 1, x.a.toNat, none⟩ (.int .i64 (o1 x.b.toNat + x.d))) := ((hx1n.trans hxq4).trans hxs4).setCell (by rw [World.size_alloc]; exact Nat.le_refl _) _
                  clear HVs HBq HVq Hrl
                  clear D1 D2 D3
                  go_wp2_with fail
                  go_roundg (L.wy.length - (m + 1))
                  case measure => omega
                  case rel => exact ⟨m + 1, by omega, by go_num, hx4n, Lib.hid (by rw [HW1.out]; unfold bfS; rw [HO1.out]; exact HV4.out), Lib.hid (by
                    have h9 := HA1.out.rlx (b := x.a.toNat) yb d0 d1 (by omega)
                    rw [HW1.out]
                    unfold bfS
                    rw [HO1.out]
                    intro i hi
                    have := h9 i hi
                    omega)⟩
                have D3 : decide (o1 x.b.toNat + x.d < o1 x.a.toNat) = false := decide_eq_false t3
                have Hrl := Lib.hid (rl_no2 t2 t3 : rlx o1 x.b.toNat x.a.toNat x.d = o1)
                go_upto_region 16 with fail
                (refine wp_region_onto prog_mixed (by kernel_rfl) ?_; (repeat (go_big_quiet_step ((fail)))); refine onto_end ?_; intro wq4 hq4)
                have hxq4 : Ext wt1 wq4 := (by repeat (first | exact Ext.refl _ | assumption | refine Ext.alloc ?_ _ | refine Ext.drew ?_ | refine Ext.drewN ?_ _ | refine Ext.setCell ?_ (by first | (simp; done) | (simp; omega) | omega) _ | refine Ext.trans ?_ (by assumption)))
                have HBt4 := Lib.hid (HBt1.out.ext hxq4)
                have Hbx4 := Lib.hid (Hbx1.out.ext hxq4)
                have HV4 := Lib.hid (show Blk wq4 (w.heap.size + 1) j (vcC (rlx o1 x.b.toNat x.a.toNat x.d)) from by rw [Hrl.out]; exact HV1.out.ext hxq4)
                have hx4n := hx1n.trans hxq4
                clear cS cD W1 v1 v2 v3 v4 hgm bx0 bx1 bxg bt0 bt1 bt2 btg
                clear Hrl
                clear D1 D2 D3
                go_wp2_with fail
                go_roundg (L.wy.length - (m + 1))
                case measure => omega
                case rel => exact ⟨m + 1, by omega, by go_num, hx4n, Lib.hid (by rw [HW1.out]; unfold bfS; rw [HO1.out]; exact HV4.out), Lib.hid (by
                  have h9 := HA1.out.rlx (b := x.a.toNat) yb d0 d1 (by omega)
                  rw [HW1.out]
                  unfold bfS
                  rw [HO1.out]
                  intro i hi
                  have := h9 i hi
                  omega)⟩
              have D3 : decide (o x.a.toNat + x.d < o x.b.toNat) = false := decide_eq_false t3
              have Hrl := Lib.hid (rl_no2 t2 t3 : rlx o x.a.toNat x.b.toNat x.d = o)
              go_upto_region 14 with fail
              (refine wp_region_onto prog_mixed (by kernel_rfl) ?_; (repeat (go_big_quiet_step ((fail)))); refine onto_end ?_; intro wq1 hq1)
              have hxq1 : Ext wr wq1 := (by repeat (first | exact Ext.refl _ | assumption | refine Ext.alloc ?_ _ | refine Ext.drew ?_ | refine Ext.drewN ?_ _ | refine Ext.setCell ?_ (by first | (simp; done) | (simp; omega) | omega) _ | refine Ext.trans ?_ (by assumption)))
              have HBt1 := Lib.hid (HBt.out.ext (show Ext (wr.alloc (.cells #[.int .i64 x.a, .int .i64 x.b, .int .i64 x.d] 225)) wq1 from (by repeat (first | exact Ext.refl _ | assumption | refine Ext.alloc ?_ _ | refine Ext.drew ?_ | refine Ext.drewN ?_ _ | refine Ext.setCell ?_ (by first | (simp; done) | (simp; omega) | omega) _ | refine Ext.trans ?_ (by assumption)))))
              have Hbx1 := Lib.hid (Hbx.out.ext hxq1)
              have HV1 := Lib.hid (show Blk wq1 (w.heap.size + 1) j (vcC (rlx o x.a.toNat x.b.toNat x.d)) from by rw [Hrl.out]; exact HV.out.ext hxq1)
              have hx1n := hxm.trans hxq1
              clear cS cD W1 v1 v2 v3 v4 hgm hgm1 bx0 bx1 bxg bxg1 h1 h2 h3
              clear Hrl
              clear D1 D2 D3
              have HA1 := Lib.hid (HA.out.rlx (b := x.b.toNat) ya d0 d1 (by omega))
              obtain ⟨o1, ho1⟩ : ∃ o', rlx o x.a.toNat x.b.toNat x.d = o' := ⟨_, rfl⟩
              have HO1 := Lib.hid ho1
              rw [ho1] at HV1 HA1
              clear ho1
              obtain ⟨v1, v2⟩ := HA1.out x.b.toNat yb
              obtain ⟨v3, v4⟩ := HA1.out x.a.toNat ya
              have cS : wq1.cell? ⟨w.heap.size + 1, x.b.toNat, none⟩ = some (.int .i64 (o1 x.b.toNat)) := (HV1.out.2 x.b.toNat yb).1
              have cD : wq1.cell? ⟨w.heap.size + 1, x.a.toNat, none⟩ = some (.int .i64 (o1 x.a.toNat)) := (HV1.out.2 x.a.toNat ya).1
              have W1 : IntKind.i64.wrap (o1 x.b.toNat + x.d) = o1 x.b.toNat + x.d := IntWalk.i64_in _ (by omega)
              have bx0 := Hbx1.out.at0
              have bx1 := Hbx1.out.at1
              have bxg := Hbx1.out.1
              have bt0 := HBt1.out.at0
              have bt1 := HBt1.out.at1
              have bt2 := HBt1.out.at2
              have btg := HBt1.out.1
              have hgm := HV1.out.1
              by_cases t1 : 0 ≤ o1 x.b.toNat
              case neg =>
                have D1 : decide (0 ≤ o1 x.b.toNat) = false := decide_eq_false t1
                have Hrl := Lib.hid (rl_no1 t1 : rlx o1 x.b.toNat x.a.toNat x.d = o1)
                go_upto_region 16 with fail
                (refine wp_region_onto prog_mixed (by kernel_rfl) ?_; (repeat (go_big_quiet_step ((fail)))); refine onto_end ?_; intro wq5 hq5)
                have hxq5 : Ext wq1 wq5 := (by repeat (first | exact Ext.refl _ | assumption | refine Ext.alloc ?_ _ | refine Ext.drew ?_ | refine Ext.drewN ?_ _ | refine Ext.setCell ?_ (by first | (simp; done) | (simp; omega) | omega) _ | refine Ext.trans ?_ (by assumption)))
                have HBt5 := Lib.hid (HBt1.out.ext hxq5)
                have Hbx5 := Lib.hid (Hbx1.out.ext hxq5)
                have HV5 := Lib.hid (show Blk wq5 (w.heap.size + 1) j (vcC (rlx o1 x.b.toNat x.a.toNat x.d)) from by rw [Hrl.out]; exact HV1.out.ext hxq5)
                have hx5n := hx1n.trans hxq5
                clear cS cD W1 v1 v2 v3 v4 hgm bx0 bx1 bxg bt0 bt1 bt2 btg
                clear Hrl
                clear D1
                go_wp2_with fail
                go_roundg (L.wy.length - (m + 1))
                case measure => omega
                case rel => exact ⟨m + 1, by omega, by go_num, hx5n, Lib.hid (by rw [HW1.out]; unfold bfS; rw [HO1.out]; exact HV5.out), Lib.hid (by
                  have h9 := HA1.out.rlx (b := x.a.toNat) yb d0 d1 (by omega)
                  rw [HW1.out]
                  unfold bfS
                  rw [HO1.out]
                  intro i hi
                  have := h9 i hi
                  omega)⟩
              have D1 : decide (0 ≤ o1 x.b.toNat) = true := decide_eq_true t1
              by_cases t2 : o1 x.a.toNat < 0
              case pos =>
                have D2 : decide (o1 x.a.toNat < 0) = true := decide_eq_true t2
                have Hrl := Lib.hid (rl_yes1 t1 t2 : rlx o1 x.b.toNat x.a.toNat x.d = set1 o1 x.a.toNat (o1 x.b.toNat + x.d))
                go_upto_region 16 with fail
                (refine wp_region_onto prog_mixed (by kernel_rfl) ?_; (repeat (go_big_quiet_step ((fail)))); refine onto_end ?_; intro wq5 hq5)
                have hxq5 : Ext wq1 wq5 := (by repeat (first | exact Ext.refl _ | assumption | refine Ext.alloc ?_ _ | refine Ext.drew ?_ | refine Ext.drewN ?_ _ | refine Ext.setCell ?_ (by first | (simp; done) | (simp; omega) | omega) _ | refine Ext.trans ?_ (by assumption)))
                have HBq := Lib.hid (HBt1.out.ext hxq5)
                have HVq := Lib.hid (HV1.out.ext hxq5)
                clear cS cD W1 v1 v2 v3 v4 hgm bx0 bx1 bxg bt0 bt1 bt2 btg
                have cS : wq5.cell? ⟨w.heap.size + 1, x.b.toNat, none⟩ = some (.int .i64 (o1 x.b.toNat)) := (HVq.out.2 x.b.toNat yb).1
                have bt0 := HBq.out.at0
                have bt1 := HBq.out.at1
                have bt2 := HBq.out.at2
                have btg := HBq.out.1
                have hgm := HVq.out.1
                obtain ⟨v1, v2⟩ := HA1.out x.b.toNat yb
                have W1 : IntKind.i64.wrap (o1 x.b.toNat + x.d) = o1 x.b.toNat + x.d := IntWalk.i64_in _ (by omega)
                go_upto_region 17 with fail
                (refine wp_region_last prog_mixed rfl (by kernel_rfl) (by kernel_rfl) (by kernel_rfl) (by kernel_rfl) ?_; simp only [List.dropLast_cons_cons, List.dropLast_singleton]; (repeat (go_big_quiet_step ((fail)))); refine last_end ?_; intro ws5 hs5; dsimp only [List.getLast])
                have hxs5 : Ext wq5 ws5 := (by repeat (first | exact Ext.refl _ | assumption | refine Ext.alloc ?_ _ | refine Ext.drew ?_ | refine Ext.drewN ?_ _ | refine Ext.setCell ?_ (by first | (simp; done) | (simp; omega) | omega) _ | refine Ext.trans ?_ (by assumption)))
                have HVs := Lib.hid (HVq.out.ext hxs5)
                have n1 : ws5.cell? ⟨w.heap.size + 1, x.a.toNat, none⟩ = some (.int .i64 (o1 x.a.toNat)) := (HVs.out.2 x.a.toNat ya).1
                have n2 := (HVs.out.2 x.a.toNat ya).2
                clear bt0 bt1 bt2 btg cS hgm v1 v2
                have hgm := HVs.out.1
                have HV5 := Lib.hid (show Blk (ws5.setCell ⟨w.heap.size + 1, x.a.toNat, none⟩ (.int .i64 (o1 x.b.toNat + x.d))) (w.heap.size + 1) j (vcC (rlx o1 x.b.toNat x.a.toNat x.d)) from by rw [Hrl.out]; exact HVs.out.setV x.a.toNat (o1 x.b.toNat + x.d) ya)
                have HBt5 := Lib.hid ((HBq.out.ext hxs5).setOther (p := ⟨w.heap.size + 1, x.a.toNat, none⟩) (by show wr.heap.size ≠ w.heap.size + 1; omega) (.int .i64 (o1 x.b.toNat + x.d)))
                have Hbx5 := Lib.hid (((Hbx1.out.ext hxq5).ext hxs5).setOther (p := ⟨w.heap.size + 1, x.a.toNat, none⟩) (by show w.heap.size ≠ w.heap.size + 1; omega) (.int .i64 (o1 x.b.toNat + x.d)))
                have hx5n : Ext (w.alloc (.cells #[.slice Ap j cp, .slice (some ⟨bw, ow, none⟩) L.wy.length ct] 69)) (ws5.setCell ⟨w.heap.size + 1, x.a.toNat, none⟩ (.int .i64 (o1 x.b.toNat + x.d))) := ((hx1n.trans hxq5).trans hxs5).setCell (by rw [World.size_alloc]; exact Nat.le_refl _) _
                clear HVs HBq HVq Hrl
                clear D1 D2
                go_wp2_with fail
                go_roundg (L.wy.length - (m + 1))
                case measure => omega
                case rel => exact ⟨m + 1, by omega, by go_num, hx5n, Lib.hid (by rw [HW1.out]; unfold bfS; rw [HO1.out]; exact HV5.out), Lib.hid (by
                  have h9 := HA1.out.rlx (b := x.a.toNat) yb d0 d1 (by omega)
                  rw [HW1.out]
                  unfold bfS
                  rw [HO1.out]
                  intro i hi
                  have := h9 i hi
                  omega)⟩
              have D2 : decide (o1 x.a.toNat < 0) = false := decide_eq_false t2
              by_cases t3 : o1 x.b.toNat + x.d < o1 x.a.toNat
              case pos =>
                have D3 : decide (o1 x.b.toNat + x.d < o1 x.a.toNat) = true := decide_eq_true t3
                have Hrl := Lib.hid (rl_yes2 t1 t3 : rlx o1 x.b.toNat x.a.toNat x.d = set1 o1 x.a.toNat (o1 x.b.toNat + x.d))
                go_upto_region 16 with fail
                (refine wp_region_onto prog_mixed (by kernel_rfl) ?_; (repeat (go_big_quiet_step ((fail)))); refine onto_end ?_; intro wq5 hq5)
                have hxq5 : Ext wq1 wq5 := (by repeat (first | exact Ext.refl _ | assumption | refine Ext.alloc ?_ _ | refine Ext.drew ?_ | refine Ext.drewN ?_ _ | refine Ext.setCell ?_ (by first | (simp; done) | (simp; omega) | omega) _ | refine Ext.trans ?_ (by assumption)))
                have HBq := Lib.hid (HBt1.out.ext hxq5)
                have HVq := Lib.hid (HV1.out.ext hxq5)
                clear cS cD W1 v1 v2 v3 v4 hgm bx0 bx1 bxg bt0 bt1 bt2 btg
                have cS : wq5.cell? ⟨w.heap.size + 1, x.b.toNat, none⟩ = some (.int .i64 (o1 x.b.toNat)) := (HVq.out.2 x.b.toNat yb).1
                have bt0 := HBq.out.at0
                have bt1 := HBq.out.at1
                have bt2 := HBq.out.at2
                have btg := HBq.out.1
                have hgm := HVq.out.1
                obtain ⟨v1, v2⟩ := HA1.out x.b.toNat yb
                have W1 : IntKind.i64.wrap (o1 x.b.toNat + x.d) = o1 x.b.toNat + x.d := IntWalk.i64_in _ (by omega)
                go_upto_region 17 with fail
                (refine wp_region_last prog_mixed rfl (by kernel_rfl) (by kernel_rfl) (by kernel_rfl) (by kernel_rfl) ?_; simp only [List.dropLast_cons_cons, List.dropLast_singleton]; (repeat (go_big_quiet_step ((fail)))); refine last_end ?_; intro ws5 hs5; dsimp only [List.getLast])
                have hxs5 : Ext wq5 ws5 := (by repeat (first | exact Ext.refl _ | assumption | refine Ext.alloc ?_ _ | refine Ext.drew ?_ | refine Ext.drewN ?_ _ | refine Ext.setCell ?_ (by first | (simp; done) | (simp; omega) | omega) _ | refine Ext.trans ?_ (by assumption)))
                have HVs := Lib.hid (HVq.out.ext hxs5)
                have n1 : ws5.cell? ⟨w.heap.size + 1, x.a.toNat, none⟩ = some (.int .i64 (o1 x.a.toNat)) := (HVs.out.2 x.a.toNat ya).1
                have n2 := (HVs.out.2 x.a.toNat ya).2
                clear bt0 bt1 bt2 btg cS hgm v1 v2
                have hgm := HVs.out.1
                have HV5 := Lib.hid (show Blk (ws5.setCell ⟨w.heap.size + 1, x.a.toNat, none⟩ (.int .i64 (o1 x.b.toNat + x.d))) (w.heap.size + 1) j (vcC (rlx o1 x.b.toNat x.a.toNat x.d)) from by rw [Hrl.out]; exact HVs.out.setV x.a.toNat (o1 x.b.toNat + x.d) ya)
                have HBt5 := Lib.hid ((HBq.out.ext hxs5).setOther (p := ⟨w.heap.size + 1, x.a.toNat, none⟩) (by show wr.heap.size ≠ w.heap.size + 1; omega) (.int .i64 (o1 x.b.toNat + x.d)))
                have Hbx5 := Lib.hid (((Hbx1.out.ext hxq5).ext hxs5).setOther (p := ⟨w.heap.size + 1, x.a.toNat, none⟩) (by show w.heap.size ≠ w.heap.size + 1; omega) (.int .i64 (o1 x.b.toNat + x.d)))
                have hx5n : Ext (w.alloc (.cells #[.slice Ap j cp, .slice (some ⟨bw, ow, none⟩) L.wy.length ct] 69)) (ws5.setCell ⟨w.heap.size + 1, x.a.toNat, none⟩ (.int .i64 (o1 x.b.toNat + x.d))) := ((hx1n.trans hxq5).trans hxs5).setCell (by rw [World.size_alloc]; exact Nat.le_refl _) _
                clear HVs HBq HVq Hrl
                clear D1 D2 D3
                go_wp2_with fail
                go_roundg (L.wy.length - (m + 1))
                case measure => omega
                case rel => exact ⟨m + 1, by omega, by go_num, hx5n, Lib.hid (by rw [HW1.out]; unfold bfS; rw [HO1.out]; exact HV5.out), Lib.hid (by
                  have h9 := HA1.out.rlx (b := x.a.toNat) yb d0 d1 (by omega)
                  rw [HW1.out]
                  unfold bfS
                  rw [HO1.out]
                  intro i hi
                  have := h9 i hi
                  omega)⟩
              have D3 : decide (o1 x.b.toNat + x.d < o1 x.a.toNat) = false := decide_eq_false t3
              have Hrl := Lib.hid (rl_no2 t2 t3 : rlx o1 x.b.toNat x.a.toNat x.d = o1)
              go_upto_region 16 with fail
              (refine wp_region_onto prog_mixed (by kernel_rfl) ?_; (repeat (go_big_quiet_step ((fail)))); refine onto_end ?_; intro wq5 hq5)
              have hxq5 : Ext wq1 wq5 := (by repeat (first | exact Ext.refl _ | assumption | refine Ext.alloc ?_ _ | refine Ext.drew ?_ | refine Ext.drewN ?_ _ | refine Ext.setCell ?_ (by first | (simp; done) | (simp; omega) | omega) _ | refine Ext.trans ?_ (by assumption)))
              have HBt5 := Lib.hid (HBt1.out.ext hxq5)
              have Hbx5 := Lib.hid (Hbx1.out.ext hxq5)
              have HV5 := Lib.hid (show Blk wq5 (w.heap.size + 1) j (vcC (rlx o1 x.b.toNat x.a.toNat x.d)) from by rw [Hrl.out]; exact HV1.out.ext hxq5)
              have hx5n := hx1n.trans hxq5
              clear cS cD W1 v1 v2 v3 v4 hgm bx0 bx1 bxg bt0 bt1 bt2 btg
              clear Hrl
              clear D1 D2 D3
              go_wp2_with fail
              go_roundg (L.wy.length - (m + 1))
              case measure => omega
              case rel => exact ⟨m + 1, by omega, by go_num, hx5n, Lib.hid (by rw [HW1.out]; unfold bfS; rw [HO1.out]; exact HV5.out), Lib.hid (by
                have h9 := HA1.out.rlx (b := x.a.toNat) yb d0 d1 (by omega)
                rw [HW1.out]
                unfold bfS
                rw [HO1.out]
                intro i hi
                have := h9 i hi
                omega)⟩
            · obtain rfl : m = L.wy.length := by omega
              have hmi : ¬ (L.wy.length : Int) < (L.wy.length : Int) := by omega
              go_wp2_with fail
              go_roundg (j - (r + 1))
              case measure => omega
              case rel => exact ⟨r + 1, by omega, by go_num, hxm, Lib.hid (by rw [HO1.out]; exact HV.out), Lib.hid (by rw [HO1.out]; intro i hi; have := HA.out i hi; omega)⟩
        · obtain rfl : r = j := by omega
          have hri : ¬ (r : Int) < (r : Int) := by omega
          have h9 := Lib.hid (show Blk wr (w.heap.size + 1) r (vcC (frmV r L.wy a.toNat)) from HV.out)
          go_wp2_with fail
          go_ret
          exact ⟨_, rfl, (by repeat (first | exact Ext.refl _ | assumption | refine Ext.alloc ?_ _ | refine Ext.drew ?_ | refine Ext.drewN ?_ _ | refine Ext.setCell ?_ (by first | (simp; done) | (simp; omega) | omega) _ | refine Ext.trans ?_ (by assumption))), by omega, h9.out.ext (by repeat (first | exact Ext.refl _ | assumption | refine Ext.alloc ?_ _ | refine Ext.drew ?_ | refine Ext.drewN ?_ _ | refine Ext.setCell ?_ (by first | (simp; done) | (simp; omega) | omega) _ | refine Ext.trans ?_ (by assumption)))⟩
end Go.Proofs.YtbddkmlfjghllaaGreatDoor

/- Contracts: stays; IsItinerary, the reference's. (Printed by genKm.py.) -/
namespace Go.Proofs.YtbddkmlfjghllaaGreatDoor
set_option linter.unusedVariables false
set_option linter.unusedSimpArgs false
open Go.RowKit
attribute [local go_sem] cell_onto

set_option maxHeartbeats 4000000 in
theorem spec_l15Stay (A : Option Addr) (n c : Nat) (u : Value) (s : Wy) (w : World) (hn : n ≤ 9223372036854775807) : Calls Tryz.prog 109 #[.agg #[.slice A n c, u], .agg #[.int .i64 s.a, .int .i64 s.b, .int .i64 s.d]] w (RetX (.bool (B (StyOk n s))) w) := by
  obtain ⟨q1, eq1⟩ : ∃ b, B (0 ≤ s.a ∧ s.a ≤ (n : Int) - 1) = b := ⟨_, rfl⟩
  have Hq1 := Lib.hid eq1
  clear eq1
  obtain ⟨q2, eq2⟩ : ∃ b, B (SpOk ⟨s.b, s.d⟩) = b := ⟨_, rfl⟩
  have Hq2 := Lib.hid eq2
  clear eq2
  have Hb := Lib.hid (Boxed.new (w.alloc (.cells #[.slice A n c, u] 69)) [.int .i64 s.a, .int .i64 s.b, .int .i64 s.d] 167)
  go_enter Tryz.func109, Tryz.ntmps109
  go_wp2_with fail
  refine Calls.mono (spec_l14Place_b Hq1.out _ _ _ _ hn) ?_
  rintro e w1 ⟨rfl, hx1⟩
  have hb1 := Hb.out.ext hx1
  rw [World.size_alloc] at hb1
  have bx := hb1; have bx0 := bx.at0; have bx1 := bx.at1; have bx2 := bx.at2; have bxg := bx.1; have Hbx := Lib.hid bx; clear bx
  have hxw1 : Ext w w1 := (by repeat (first | exact Ext.refl _ | assumption | refine Ext.alloc ?_ _ | refine Ext.drew ?_ | refine Ext.drewN ?_ _ | refine Ext.setCell ?_ (by first | (simp; done) | (simp; omega) | omega) _ | refine Ext.trans ?_ (by assumption)))
  cases q1 with
  | false =>
    go_wp2_with fail
    go_ret
    exact ⟨ret_bool (B_false (fun h => absurd (h.1) (B_not.1 Hq1.out))).symm, (by repeat (first | exact Ext.refl _ | assumption | refine Ext.alloc ?_ _ | refine Ext.drew ?_ | refine Ext.drewN ?_ _ | refine Ext.setCell ?_ (by first | (simp; done) | (simp; omega) | omega) _ | refine Ext.trans ?_ (by assumption)))⟩
  | true =>
    go_wp2_with fail
    refine Calls.mono (spec_l13Span_b Hq2.out _) ?_
    rintro e w2 ⟨rfl, hx2⟩
    cases q2 with
    | false =>
      go_wp2_with fail
      go_ret
      exact ⟨ret_bool (B_false (fun h => absurd (h.2) (B_not.1 Hq2.out))).symm, (by repeat (first | exact Ext.refl _ | assumption | refine Ext.alloc ?_ _ | refine Ext.drew ?_ | refine Ext.drewN ?_ _ | refine Ext.setCell ?_ (by first | (simp; done) | (simp; omega) | omega) _ | refine Ext.trans ?_ (by assumption)))⟩
    | true =>
      go_wp2_with fail
      go_ret
      exact ⟨ret_bool (B_true ⟨B_iff.1 Hq1.out, B_iff.1 Hq2.out⟩).symm, (by repeat (first | exact Ext.refl _ | assumption | refine Ext.alloc ?_ _ | refine Ext.drew ?_ | refine Ext.drewN ?_ _ | refine Ext.setCell ?_ (by first | (simp; done) | (simp; omega) | omega) _ | refine Ext.trans ?_ (by assumption)))⟩
theorem frm_le {n : Nat} {l : List Wy} (hl : ∀ i, i < l.length → WyOk n (wyAt l i)) (h40 : l.length ≤ 40) (hn : n ≤ 12) {a b : Nat} (ha : a < n) (hb : b < n) : frmV n l a b ≤ 57600 := by
  have hW : ∀ (c : Int) (o : Vc), 0 ≤ c → VBd n c o → ∀ m, m ≤ l.length → VBd n (c + 120 * (m : Int)) (bfW l o m) := by
    intro c o hc ho m
    induction m with
    | zero => intro _ i hi; have := ho i hi; show -1 ≤ o i ∧ o i ≤ _; omega
    | succ m ih =>
      intro hm
      obtain ⟨⟨a0, a1⟩, ⟨b0, b1⟩, _, d0, d1⟩ := hl m (by omega)
      have h1 := (ih (by omega)).rlx (a := (wyAt l m).a.toNat) (b := (wyAt l m).b.toNat) (by omega) d0 d1 (by omega)
      have h2 := h1.rlx (a := (wyAt l m).b.toNat) (b := (wyAt l m).a.toNat) (by omega) d0 d1 (by omega)
      intro i hi
      have := h2 i hi
      show -1 ≤ bfS (bfW l o m) (wyAt l m) i ∧ bfS (bfW l o m) (wyAt l m) i ≤ _
      unfold bfS
      omega
  have hR : ∀ r : Nat, VBd n (4800 * (r : Int)) (bfR l (bf0 a) r) := by
    intro r
    induction r with
    | zero => intro i hi; show -1 ≤ bf0 a i ∧ bf0 a i ≤ _; unfold bf0; split <;> omega
    | succ r ih =>
      have h := hW _ _ (by omega) ih l.length (Nat.le_refl _)
      intro i hi
      have := h i hi
      show -1 ≤ bfW l (bfR l (bf0 a) r) l.length i ∧ bfW l (bfR l (bf0 a) r) l.length i ≤ _
      omega
  have := (hR n b hb).2
  show bfR l (bf0 a) n b ≤ 57600
  omega
set_option maxRecDepth 100000 in
set_option maxHeartbeats 16000000 in
theorem spec_IsItinerary (v u vs : Value) (L : Lnd) (l : List Wy) (w : World) (hp : Strs w 0 w.heap.size v L.pl) (ht : Wys w 0 w.heap.size u L.wy) (hs : Wys w 0 w.heap.size vs l) (hsm : ∀ i, i < L.pl.length → (strAt L.pl i).size ≤ 1048576) : Calls Tryz.prog 66 #[.agg #[v, u], vs] w (RetX (.bool (B (ItiOk L l))) w) := by
  obtain ⟨Ap, cp, rfl, hnp, hcp⟩ := hp.len
  obtain ⟨As, cs', rfl, hns, hcs⟩ := hs.len
  have Hp := Lib.hid hp
  have Ht := Lib.hid ht
  have Hs := Lib.hid hs
  clear hp ht hs
  have Hb := Lib.hid (Boxed.new w [.slice Ap L.pl.length cp, u] 69)
  obtain ⟨q1, e1⟩ : ∃ b, B (LndOk L) = b := ⟨_, rfl⟩
  have Hq1 := Lib.hid e1
  clear e1
  have HL := Lib.hid (fun (W : World) (hX : Ext w W) => show Calls Tryz.prog 108 #[.agg #[.slice Ap L.pl.length cp, u]] W (RetX (.bool q1) W) from by rw [← Hq1.out]; exact spec_IsLand _ u L W (Hp.out.up hX) (Ht.out.up hX) hsm)
  clear hsm
  go_enter Tryz.func66, Tryz.ntmps66
  go_wp2_with fail
  refine Calls.mono (HL.out _ (by repeat (first | exact Ext.refl _ | assumption | refine Ext.alloc ?_ _ | refine Ext.drew ?_ | refine Ext.drewN ?_ _ | refine Ext.setCell ?_ (by first | (simp; done) | (simp; omega) | omega) _ | refine Ext.trans ?_ (by assumption)))) ?_
  rintro e w1 ⟨rfl, hx1⟩
  have bx := Hb.out.ext hx1; have bx0 := bx.at0; have bx1 := bx.at1; have bxg := bx.1; have Hbx := Lib.hid bx; clear bx
  cases q1 with
  | false =>
    go_wp2_with fail
    go_ret
    exact ⟨ret_bool (B_false (fun h => B_not.1 Hq1.out h.1)).symm, (by repeat (first | exact Ext.refl _ | assumption | refine Ext.alloc ?_ _ | refine Ext.drew ?_ | refine Ext.drewN ?_ _ | refine Ext.setCell ?_ (by first | (simp; done) | (simp; omega) | omega) _ | refine Ext.trans ?_ (by assumption)))⟩
  | true =>
    have hok := B_iff.1 Hq1.out
    have Hok := Lib.hid hok
    have hw40 := hok.2.1
    have hn12 : L.pl.length ≤ 12 := hok.1.2
    clear hok
    by_cases hl : l.length ≤ 40
    case neg =>
      have d1 : decide ((40 : Int) < (l.length : Int)) = true := decide_eq_true (by omega)
      go_wp2_with fail
      go_ret
      exact ⟨ret_bool (B_false (fun h => by have := h.2.1; omega)).symm, (by repeat (first | exact Ext.refl _ | assumption | refine Ext.alloc ?_ _ | refine Ext.drew ?_ | refine Ext.drewN ?_ _ | refine Ext.setCell ?_ (by first | (simp; done) | (simp; omega) | omega) _ | refine Ext.trans ?_ (by assumption)))⟩
    have d1 : decide ((40 : Int) < (l.length : Int)) = false := decide_eq_false (by omega)
    have hxa1 : Ext (w.alloc (.cells #[.slice Ap L.pl.length cp, u] 69)) w1 := hx1
    clear bx0 bx1 bxg hx1
    have bx0 := Hbx.out.at0
    have bx1 := Hbx.out.at1
    have bxg := Hbx.out.1
    go_wp2_with fail
    clear bx0 bx1 bxg
    go_loopg [5, 6] l.length (fun q i u6 wr => ∃ j : Nat, j + q = l.length ∧ i = .int .i64 j ∧ Ext (w.alloc (.cells #[.slice Ap L.pl.length cp, u] 69)) wr ∧ ∀ i, i < j → StStep L.pl.length (trvM L.pl.length L.wy) l i)
    case atStart => exact ⟨0, by omega, rfl, hxa1, fun i hi => absurd hi (by omega)⟩
    case round =>
      obtain ⟨j, hj, rfl, hxr, hok⟩ := hrel
      have Hst := Lib.hid hok
      clear hok
      have hx : Ext w wr := ((Ext.refl w).alloc _).trans hxr
      have bxr := Hb.out.ext hxr
      have bx0 := bxr.at0
      have bx1 := bxr.at1
      have bxg := bxr.1
      have Hbr := Lib.hid bxr
      clear bxr
      have hj0 : (0 : Int) ≤ (j : Int) := by omega
      by_cases hlt : j < l.length
      · have hji : (j : Int) < (l.length : Int) := by omega
        obtain ⟨bs, ofs, eA, _, hbs, h1, h2, h3⟩ := (Hs.out.ext hx (Nat.le_refl _)).at_ hlt
        subst eA
        have hbr : bs < wr.heap.size := Nat.lt_of_lt_of_le hbs hx.size
        obtain ⟨s, hs⟩ : ∃ s, wyAt l j = s := ⟨_, rfl⟩
        rw [hs] at h1 h2 h3
        have HS := Lib.hid hs
        clear hs
        obtain ⟨q2, e1⟩ : ∃ b, B (StyOk L.pl.length s) = b := ⟨_, rfl⟩
        have Hq2 := Lib.hid (fun W => show Calls Tryz.prog 109 #[.agg #[.slice Ap L.pl.length cp, u], .agg #[.int .i64 s.a, .int .i64 s.b, .int .i64 s.d]] W (RetX (.bool q2) W) from by subst e1; exact spec_l15Stay _ _ _ _ s W hnp)
        have H2 := Lib.hid e1
        clear e1
        go_upto_region 6 with fail
        (refine wp_region_onto prog_mixed (by kernel_rfl) ?_; (repeat (go_big_quiet_step ((go_at_call 109; exact onto_callX (Hq2.out _))))); refine onto_end ?_; intro w2 hx2)
        have hxq : Ext wr w2 := (by repeat (first | exact Ext.refl _ | assumption | refine Ext.alloc ?_ _ | refine Ext.drew ?_ | refine Ext.drewN ?_ _ | refine Ext.setCell ?_ (by first | (simp; done) | (simp; omega) | omega) _ | refine Ext.trans ?_ (by assumption)))
        have hxw2 : Ext w w2 := hx.trans hxq
        clear h1 h2 h3 bx0 bx1 bxg
        have bxr := Hbr.out.ext hxq
        have bx0 := bxr.at0
        have bx1 := bxr.at1
        have bxg := bxr.1
        have Hb2 := Lib.hid bxr
        clear bxr
        cases q2 with
        | false =>
          go_wp2_with fail
          go_ret
          exact ⟨ret_bool (B_false (fun h => B_not.1 H2.out (by have := (h.2.2 j hlt).1; rwa [HS.out] at this))).symm, (by repeat (first | exact Ext.refl _ | assumption | refine Ext.alloc ?_ _ | refine Ext.drew ?_ | refine Ext.drewN ?_ _ | refine Ext.setCell ?_ (by first | (simp; done) | (simp; omega) | omega) _ | refine Ext.trans ?_ (by assumption)))⟩
        | true =>
          by_cases h0 : 0 < j
          case neg =>
            have d0 : decide ((0 : Int) < (j : Int)) = false := decide_eq_false (by omega)
            go_wp2_with fail
            go_roundg (l.length - (j + 1))
            case measure => omega
            case rel => exact ⟨j + 1, by omega, by go_num, (hxr.trans hxq).trans (by repeat (first | exact Ext.refl _ | assumption | refine Ext.alloc ?_ _ | refine Ext.drew ?_ | refine Ext.drewN ?_ _ | refine Ext.setCell ?_ (by first | (simp; done) | (simp; omega) | omega) _ | refine Ext.trans ?_ (by assumption))), fun i hi => by
              obtain rfl : i = j := by omega
              exact ⟨by rw [HS.out]; exact B_iff.1 H2.out, fun hh => absurd hh h0⟩⟩
          have d0 : decide ((0 : Int) < (j : Int)) = true := decide_eq_true (by omega)
          obtain ⟨bs', ofs', e, _, _, k1, k2, k3⟩ := Hs.out.at_ (i := j - 1) (by omega)
          injection e with e
          injection e with e1 e2
          subst e1 e2
          obtain ⟨bs', ofs', e, _, _, m1, m2, m3⟩ := Hs.out.at_ (i := j) hlt
          injection e with e
          injection e with e1 e2
          subst e1 e2
          rw [HS.out] at m1 m2 m3
          have hq0 : (0 : Int) ≤ (j : Int) - 1 := by omega
          have hq1 : (j : Int) - 1 < (l.length : Int) := by omega
          have hq2 : ((j : Int) - 1).toNat = j - 1 := by omega
          have W0 : IntKind.i64.wrap ((j : Int) - 1) = (j : Int) - 1 := IntWalk.i64_in _ (by omega)
          have hpr := (Hst.out (j - 1) (by omega)).1
          obtain ⟨t, ht⟩ : ∃ t, wyAt l (j - 1) = t := ⟨_, rfl⟩
          rw [ht] at k1 k2 k3 hpr
          have HT := Lib.hid ht
          clear ht
          have Hso := Lib.hid (B_iff.1 H2.out)
          have Hto := Lib.hid hpr
          obtain ⟨⟨ta0, ta1⟩, ⟨tb0, tb1⟩, ⟨td0, td1⟩, _⟩ := hpr
          obtain ⟨⟨sa0, sa1⟩, ⟨sb0, sb1⟩, _, _⟩ := Hso.out
          have ta2 : t.a < (L.pl.length : Int) := by omega
          have sa2 : s.a < (L.pl.length : Int) := by omega
          have yt : t.a.toNat < L.pl.length := by omega
          have ys : s.a.toNat < L.pl.length := by omega
          have r1 := (hxw2.cell (p := ⟨bs, ofs + (j - 1) * 3, none⟩) hbs).trans k1
          have r2 := (hxw2.cell (p := ⟨bs, ofs + j * 3, none⟩) hbs).trans m1
          obtain ⟨z, hz⟩ : ∃ z, frmV L.pl.length L.wy t.a.toNat s.a.toNat = z := ⟨_, rfl⟩
          have Hiff := Lib.hid (show StStep L.pl.length (trvM L.pl.length L.wy) l j ↔ (0 ≤ z ∧ t.d + max 1 z ≤ s.b) from ⟨fun h => by
            have h9 := h.2 h0
            rw [HS.out, HT.out, nxt_iff Hok.out.2.2.2 hw40 hn12 Hto.out Hso.out, hz] at h9
            exact h9, fun h => ⟨by rw [HS.out]; exact Hso.out, fun _ => by
            rw [HS.out, HT.out, nxt_iff Hok.out.2.2.2 hw40 hn12 Hto.out Hso.out, hz]
            exact h⟩⟩)
          have Hz := Lib.hid hz
          clear hz
          have Hzb := Lib.hid (show z ≤ 57600 from by rw [← Hz.out]; exact frm_le Hok.out.2.2.2 hw40 hn12 yt ys)
          go_upto_region 9 with fail
          have hjl1 : (1 : Int) ≤ (j : Int) := by omega
          have hbsw2 : bs < w2.heap.size := Nat.lt_of_lt_of_le hbs hxw2.size
          go_region_law (go_simp; go_at_call 110; refine Calls.mono (spec_l14From _ u L t.a _ (Hp.out.up (hxw2.trans (by repeat (first | exact Ext.refl _ | assumption | refine Ext.alloc ?_ _ | refine Ext.drew ?_ | refine Ext.drewN ?_ _ | refine Ext.setCell ?_ (by first | (simp; done) | (simp; omega) | omega) _ | refine Ext.trans ?_ (by assumption))))) (Ht.out.up (hxw2.trans (by repeat (first | exact Ext.refl _ | assumption | refine Ext.alloc ?_ _ | refine Ext.drew ?_ | refine Ext.drewN ?_ _ | refine Ext.setCell ?_ (by first | (simp; done) | (simp; omega) | omega) _ | refine Ext.trans ?_ (by assumption))))) Hok.out ta0 ta2) ?_; rintro e w3 ⟨g, rfl, hx3, hg3, hB3⟩; have hgw3 := hB3.1; have cz : w3.cell? ⟨g, s.a.toNat, none⟩ = some (.int .i64 z) := ((hB3.2 s.a.toNat ys).1).trans (congrArg (fun y => some (Value.int .i64 y)) Hz.out); have r23 : w3.cell? ⟨bs, ofs + j * 3, none⟩ = some (.int .i64 s.a) := (Ext.cell (show Ext w2 w3 from (by repeat (first | exact Ext.refl _ | assumption | refine Ext.alloc ?_ _ | refine Ext.drew ?_ | refine Ext.drewN ?_ _ | refine Ext.setCell ?_ (by first | (simp; done) | (simp; omega) | omega) _ | refine Ext.trans ?_ (by assumption)))) (p := ⟨bs, ofs + j * 3, none⟩) hbsw2).trans r2; have hbs4 : bs < w3.heap.size := Nat.lt_of_lt_of_le hbsw2 (Ext.size (show Ext w2 w3 from (by repeat (first | exact Ext.refl _ | assumption | refine Ext.alloc ?_ _ | refine Ext.drew ?_ | refine Ext.drewN ?_ _ | refine Ext.setCell ?_ (by first | (simp; done) | (simp; omega) | omega) _ | refine Ext.trans ?_ (by assumption))))))
          all_goals
            have hx23 : Ext w2 w3 := (by repeat (first | exact Ext.refl _ | assumption | refine Ext.alloc ?_ _ | refine Ext.drew ?_ | refine Ext.drewN ?_ _ | refine Ext.setCell ?_ (by first | (simp; done) | (simp; omega) | omega) _ | refine Ext.trans ?_ (by assumption)))
            have hxw3 : Ext w w3 := hxw2.trans hx23
            have hbs3 : bs < w3.heap.size := Nat.lt_of_lt_of_le hbs hxw3.size
            have p1 := (hxw3.cell (p := ⟨bs, ofs + (j - 1) * 3 + 2, none⟩) hbs).trans k3
            have p2 := (hxw3.cell (p := ⟨bs, ofs + j * 3 + 1, none⟩) hbs).trans m2
            have hzb := Hzb.out
            clear k1 k2 k3 m1 m2 m3 r1 r2 cz r23
            by_cases z0 : 0 ≤ z
            case neg =>
              have D1 : decide (z < 0) = true := decide_eq_true (by omega)
              go_wp2_with fail
              (refine wp_region_onto prog_mixed (by kernel_rfl) ?_; (repeat (go_big_quiet_step ((fail)))); refine onto_end ?_; intro w4 hx4)
              go_wp2_with fail
              go_ret
              exact ⟨ret_bool (B_false (fun h => by have := Hiff.out.1 (h.2.2 j hlt); omega)).symm, (by repeat (first | exact Ext.refl _ | assumption | refine Ext.alloc ?_ _ | refine Ext.drew ?_ | refine Ext.drewN ?_ _ | refine Ext.setCell ?_ (by first | (simp; done) | (simp; omega) | omega) _ | refine Ext.trans ?_ (by assumption)))⟩
            have D1 : decide (z < 0) = false := decide_eq_false (by omega)
            have W2 : IntKind.i64.wrap (t.d + max 1 z) = t.d + max 1 z := IntWalk.i64_in _ (by omega)
            by_cases z1 : t.d + max 1 z ≤ s.b
            case neg =>
              have D2 : decide (s.b < t.d + max 1 z) = true := decide_eq_true (by omega)
              go_wp2_with fail
              (refine wp_region_onto prog_mixed (by kernel_rfl) ?_; (repeat (go_big_quiet_step ((fail)))); refine onto_end ?_; intro w4 hx4)
              go_wp2_with fail
              go_ret
              exact ⟨ret_bool (B_false (fun h => by have := Hiff.out.1 (h.2.2 j hlt); omega)).symm, (by repeat (first | exact Ext.refl _ | assumption | refine Ext.alloc ?_ _ | refine Ext.drew ?_ | refine Ext.drewN ?_ _ | refine Ext.setCell ?_ (by first | (simp; done) | (simp; omega) | omega) _ | refine Ext.trans ?_ (by assumption)))⟩
            have D2 : decide (s.b < t.d + max 1 z) = false := decide_eq_false (by omega)
            have Hnew := Lib.hid (Hiff.out.2 ⟨z0, z1⟩)
            go_wp2_with fail
            (refine wp_region_onto prog_mixed (by kernel_rfl) ?_; (repeat (go_big_quiet_step ((fail)))); refine onto_end ?_; intro w4 hx4)
            have hx34 : Ext w3 w4 := (by repeat (first | exact Ext.refl _ | assumption | refine Ext.alloc ?_ _ | refine Ext.drew ?_ | refine Ext.drewN ?_ _ | refine Ext.setCell ?_ (by first | (simp; done) | (simp; omega) | omega) _ | refine Ext.trans ?_ (by assumption)))
            go_wp2_with fail
            go_roundg (l.length - (j + 1))
            case measure => omega
            case rel => exact ⟨j + 1, by omega, by go_num, (((hxr.trans hxq).trans hx23).trans hx34).trans (by repeat (first | exact Ext.refl _ | assumption | refine Ext.alloc ?_ _ | refine Ext.drew ?_ | refine Ext.drewN ?_ _ | refine Ext.setCell ?_ (by first | (simp; done) | (simp; omega) | omega) _ | refine Ext.trans ?_ (by assumption))), st_step Hst.out Hnew.out⟩
      · obtain rfl : j = l.length := by omega
        have hji : ¬ (l.length : Int) < (l.length : Int) := by omega
        go_wp2_with fail
        go_ret
        exact ⟨ret_bool (B_true ⟨Hok.out, hl, Hst.out⟩).symm, (by repeat (first | exact Ext.refl _ | assumption | refine Ext.alloc ?_ _ | refine Ext.drew ?_ | refine Ext.drewN ?_ _ | refine Ext.setCell ?_ (by first | (simp; done) | (simp; omega) | omega) _ | refine Ext.trans ?_ (by assumption)))⟩
end Go.Proofs.YtbddkmlfjghllaaGreatDoor
