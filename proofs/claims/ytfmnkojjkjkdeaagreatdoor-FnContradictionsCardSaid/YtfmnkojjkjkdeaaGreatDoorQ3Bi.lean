/- Contracts: the program's bounds. -/
import Derived.Test.YtfmnkojjkjkdeaaGreatDoorQ3Bd
import Derived.BigRegion
import Derived.Deep.RegionHeld3
import Derived.Deep.DeepCutAuto
namespace Go.Proofs.YtfmnkojjkjkdeaaGreatDoor
set_option linter.unusedVariables false
set_option linter.unusedSimpArgs false
open Go.RowKit
attribute [local go_sem] cell_onto

theorem inAt_set_self (x : List Int) (v : Nat) : x.set v (inAt x v) = x := by
  refine list_ext (by simp) (fun i hi => ?_)
  rw [inAt_set]
  split
  · rename_i h; rw [h.1]
  · rfl
theorem Boxed.newA (w : World) (o : Obj) (cs : List Value) (T : TypeId) : Boxed ((w.alloc o).alloc (.cells cs.toArray T)) (w.heap.size + 1) cs := by
  have := Boxed.new (w.alloc o) cs T
  simpa using this
theorem lift_max {x : List Int} {v u : Nat} {c : Int} : lift x v u c = x.set v (max (inAt x v) (inAt x u + c)) := by
  unfold lift
  split
  · rename_i h; rw [Int.max_eq_right (by omega)]
  · rename_i h; rw [Int.max_eq_left (by omega), inAt_set_self]
theorem relax_min {x : List Int} {v u : Nat} {c : Int} : relax x v u c = x.set v (min (inAt x v) (inAt x u + c)) := by
  unfold relax
  split
  · rename_i h; rw [Int.min_eq_right (by omega)]
  · rename_i h; rw [Int.min_eq_left (by omega), inAt_set_self]

theorem turn_allI {b b1 b3 b4 : Bool} {c1 c2 c3 c4 p q : Prop} (h5 : b4 = true ↔ (b3 = true ∨ c4)) (h4 : b3 = true ↔ (b1 = true ∨ c3)) (h2 : b1 = true ↔ ((b = true ∨ c1) ∨ c2)) (h1 : b = true ↔ (p ∨ q)) :
    b4 = true ↔ (((((p ∨ q) ∨ c1) ∨ c2) ∨ c3) ∨ c4) := by
  rw [h5, h4, h2, h1]
theorem turn_neI {l : Lk} {x y y1 y2 x' z z1 z2 : List Int} {t1 t2 t3 t4 : Int}
    (h1 : (y ≠ x ∨ inAt y l.af.toNat < inAt y l.be.toNat + l.le ∨ inAt (lo1 l y) l.be.toNat < inAt (lo1 l y) l.af.toNat + -l.mo) ↔ lo2 l y ≠ x)
    (h2 : (z ≠ x' ∨ inAt z (lkRev l).be.toNat + (lkRev l).mo < inAt z (lkRev l).af.toNat ∨ inAt (up1 (lkRev l) z) (lkRev l).af.toNat + -(lkRev l).le < inAt (up1 (lkRev l) z) (lkRev l).be.toNat) ↔ up2 (lkRev l) z ≠ x')
    (d1 : lo1 l y = y1) (d2 : lo2 l y = y2) (d3 : up1 (lkRev l) z = z1) (d4 : up2 (lkRev l) z = z2)
    (e1 : t1 = max (inAt y l.af.toNat) (inAt y l.be.toNat + l.le)) (e2 : t2 = min (inAt z l.be.toNat) (inAt z l.af.toNat - l.le))
    (e3 : t3 = max (inAt y1 l.be.toNat) (inAt y1 l.af.toNat - l.mo)) (e4 : t4 = min (inAt z1 l.af.toNat) (inAt z1 l.be.toNat + l.mo)) :
    (((((y ≠ x ∨ z ≠ x') ∨ inAt y l.af.toNat ≠ t1) ∨ inAt z l.be.toNat ≠ t2) ∨ t3 ≠ inAt y1 l.be.toNat) ∨ t4 ≠ inAt z1 l.af.toNat) ↔ (y2 ≠ x ∨ z2 ≠ x') := by
  have q1 : (lkRev l).be = l.af := rfl
  have q2 : (lkRev l).af = l.be := rfl
  have q3 : (lkRev l).mo = -l.le := rfl
  have q4 : (lkRev l).le = -l.mo := rfl
  rw [d1, d2] at h1
  rw [d3, d4, q1, q2, q3, q4] at h2
  rw [← h1, ← h2]
  have a1 : inAt y l.af.toNat ≠ t1 ↔ inAt y l.af.toNat < inAt y l.be.toNat + l.le := by omega
  have a2 : inAt z l.be.toNat ≠ t2 ↔ inAt z l.af.toNat + -l.le < inAt z l.be.toNat := by omega
  have a3 : t3 ≠ inAt y1 l.be.toNat ↔ inAt y1 l.be.toNat < inAt y1 l.af.toNat + -l.mo := by omega
  have a4 : t4 ≠ inAt z1 l.af.toNat ↔ inAt z1 l.be.toNat + - -l.mo < inAt z1 l.af.toNat := by omega
  rw [a1, a2, a3, a4]
  generalize (y ≠ x) = p1
  generalize (z ≠ x') = p2
  constructor
  · rintro (((((h | h) | h) | h) | h) | h)
    · exact .inl (.inl h)
    · exact .inr (.inl h)
    · exact .inl (.inr (.inl h))
    · exact .inr (.inr (.inl h))
    · exact .inl (.inr (.inr h))
    · exact .inr (.inr (.inr h))
  · rintro ((h | h | h) | (h | h | h))
    · exact .inl (.inl (.inl (.inl (.inl h))))
    · exact .inl (.inl (.inl (.inr h)))
    · exact .inl (.inr h)
    · exact .inl (.inl (.inl (.inl (.inr h))))
    · exact .inl (.inl (.inr h))
    · exact .inr h

def NoI (ls hs : List Lk) (ch : List Sp) (r t : Nat) : Prop := ∀ i, i < t → ¬ CrossI ls hs ch r i
theorem NoI.step {ls hs : List Lk} {ch : List Sp} {r t : Nat} (h : NoI ls hs ch r t) (h2 : ¬ CrossI ls hs ch r t) : NoI ls hs ch r (t + 1) := by
  intro i hi
  by_cases e : i = t
  · subst e; exact h2
  · exact h i (by omega)
theorem upX_step (ls : List Lk) (x : List Int) (r : Nat) : upX (ls.map lkRev) x (r + 1) = upTo (ls.map lkRev) (upX (ls.map lkRev) x r) ls.length := by
  show upTo _ _ (ls.map lkRev).length = _
  rw [List.length_map]

set_option maxRecDepth 100000 in
set_option maxHeartbeats 16000000 in
theorem impl_bounds (lv v : Value) (ls : List Lk) (ch : List Sp) (w : World) (h : Links w 0 w.heap.size lv ls) (hch : Spans w 0 w.heap.size v ch) (h8 : ch.length ≤ 8) (h20 : ls.length ≤ 21) (hlks : LksOk ls ch.length) (hsp : SpsOk ch) :
    Calls Tryz.prog 263 #[lv, v] w (BoPost ls ch w) := by
  obtain ⟨Ak, ck, rfl, hnk, hck⟩ := h.len
  obtain ⟨Ac, cc, rfl, hnc, hcc⟩ := hch.len
  have H := Lib.hid h
  have Hc := Lib.hid hch
  have Hlks := Lib.hid hlks
  have Hrev := Lib.hid hlks.rev
  have Hal := Lib.hid (alike_rev ls)
  have Hsp := Lib.hid hsp
  have Hrl : Hid ((ls.map lkRev).length = ls.length) := Lib.hid (List.length_map _)
  clear h hch hlks hsp
  go_enter Tryz.func263, Tryz.ntmps263
  go_wp2_with fail
  go_loopg [7, 8, 26] ch.length (fun q u1 u2 i wr => ∃ j : Nat, j + q = ch.length ∧ i = .int .i64 j ∧ FillSt w 2 ch j u1 u2 wr)
  case atStart =>
    refine ⟨0, by omega, rfl, (by repeat (first | exact Ext.refl _ | assumption | refine Ext.alloc ?_ _ | refine Ext.drew ?_ | refine Ext.drewN ?_ _ | refine Ext.setCell ?_ (by first | (simp; done) | (simp; omega) | omega) _ | refine Ext.trans ?_ (by assumption))), .inr ⟨rfl, rfl, ⟨_, rfl⟩, fun g hg => ?_⟩, .inr ⟨rfl, rfl, ⟨_, rfl⟩, fun g hg => ?_⟩, fun g hg hu => ?_⟩
    all_goals (simp [Value.ownBlock] at *)
    all_goals omega
  case round =>
    obtain ⟨j, hj, rfl, hst⟩ := hrel
    have Hst := Lib.hid hst
    have hx := hst.1
    have hl1 : ((frsL ch).take j).length ≤ 8 := by rw [List.length_take, frsL_len]; omega
    have hl2 : ((tosL ch).take j).length ≤ 8 := by rw [List.length_take, tosL_len]; omega
    clear hst
    by_cases hlt : j < ch.length
    · obtain ⟨b, off, rfl, _, hb, h1, h2⟩ := (Hc.out.ext hx (Nat.le_refl _)).at_ hlt
      have hxs := hx.size
      have Hbx := Lib.hid (Boxed.new wr [.int .i64 (spAt ch j).fr, .int .i64 (spAt ch j).to] 134)
      go_wp2_with (first
        | (at_builtin; refine wpList_append_row _ rfl _ _ 28 rfl (w.heap.size + 1) 2 1 8 Tryz.underlying28 (by kernel_rfl) (by omega) _ ((frsL ch).take j).length 1 _ rfl (Hst.out.2.1.ext' (by repeat (first | exact Ext.refl _ | assumption | refine Ext.alloc ?_ _ | refine Ext.drew ?_ | refine Ext.drewN ?_ _ | refine Ext.setCell ?_ (by first | (simp; done) | (simp; omega) | omega) _ | refine Ext.trans ?_ (by assumption)))) (.inr (by omega)) 0 _ _ (intCell [(spAt ch j).fr]) rfl ((Boxed.newA wr (.cells #[.int .i64 (spAt ch j).fr, .int .i64 (spAt ch j).to] 134) [.int .i64 (spAt ch j).fr] 2).row rfl (int_cells _)) (fun _ _ => rfl) (by unfold maxLen; omega) (by omega) (by simp; omega) ?_; intro v1 w2 hown1 hput1; have hbq := (Hbx.out.ext (show Ext _ ((wr.alloc (.cells #[.int .i64 (spAt ch j).fr, .int .i64 (spAt ch j).to] 134)).alloc (.cells #[.int .i64 (spAt ch j).fr] 2)) from (by repeat (first | exact Ext.refl _ | assumption | refine Ext.alloc ?_ _ | refine Ext.drew ?_ | refine Ext.drewN ?_ _ | refine Ext.setCell ?_ (by first | (simp; done) | (simp; omega) | omega) _ | refine Ext.trans ?_ (by assumption))))).off hput1.1 (fun hh => by have := Hst.out.2.1.lt _ hh.2.2; omega); have hb2 := hbq.at1; have hbr2 := hbq.1; clear hbq)
        | (at_builtin; refine wpList_append_row _ rfl _ _ 28 rfl (w.heap.size + 1) 2 1 8 Tryz.underlying28 (by kernel_rfl) (by omega) _ ((tosL ch).take j).length 1 _ rfl (((Hst.out.2.2.1.ext' (show Ext wr ((wr.alloc (.cells #[.int .i64 (spAt ch j).fr, .int .i64 (spAt ch j).to] 134)).alloc (.cells #[.int .i64 (spAt ch j).fr] 2)) from (by repeat (first | exact Ext.refl _ | assumption | refine Ext.alloc ?_ _ | refine Ext.drew ?_ | refine Ext.drewN ?_ _ | refine Ext.setCell ?_ (by first | (simp; done) | (simp; omega) | omega) _ | refine Ext.trans ?_ (by assumption))))).off' hput1.1 (fun g hb hg hh => Hst.out.2.2.2 g hh.2.2 hg)).ext' (by repeat (first | exact Ext.refl _ | assumption | refine Ext.alloc ?_ _ | refine Ext.drew ?_ | refine Ext.drewN ?_ _ | refine Ext.setCell ?_ (by first | (simp; done) | (simp; omega) | omega) _ | refine Ext.trans ?_ (by assumption)))) (.inr (by omega)) 0 _ _ (intCell [(spAt ch j).to]) rfl ((Boxed.new w2 [.int .i64 (spAt ch j).to] 2).row rfl (int_cells _)) (fun _ _ => rfl) (by unfold maxLen; omega) (by omega) (by have := hput1.size; simp at this ⊢; omega) ?_; intro v2 w3 hown2 hput2))
      go_roundg (ch.length - (j + 1))
      case measure => omega
      case rel =>
        have hxa : Ext wr ((wr.alloc (.cells #[.int .i64 (spAt ch j).fr, .int .i64 (spAt ch j).to] 134)).alloc (.cells #[.int .i64 (spAt ch j).fr] 2)) := (by repeat (first | exact Ext.refl _ | assumption | refine Ext.alloc ?_ _ | refine Ext.drew ?_ | refine Ext.drewN ?_ _ | refine Ext.setCell ?_ (by first | (simp; done) | (simp; omega) | omega) _ | refine Ext.trans ?_ (by assumption)))
        have hxb : Ext w2 (w2.alloc (.cells #[.int .i64 (spAt ch j).to] 2)) := (by repeat (first | exact Ext.refl _ | assumption | refine Ext.alloc ?_ _ | refine Ext.drew ?_ | refine Ext.drewN ?_ _ | refine Ext.setCell ?_ (by first | (simp; done) | (simp; omega) | omega) _ | refine Ext.trans ?_ (by assumption)))
        exact ⟨j + 1, by omega, by go_num, Hst.out.push hlt hxa hput1 hown1 hxb hput2 hown2⟩
    · obtain rfl : j = ch.length := by omega
      have hst := Hst.out
      obtain ⟨_, d1, d2, dne⟩ := hst
      rw [List.take_of_length_le (by rw [frsL_len]; omega), frsL_len] at d1
      rw [List.take_of_length_le (by rw [tosL_len]; omega), tosL_len] at d2
      obtain ⟨g1, hg1, ho1⟩ := Own.of_dst' d1
      obtain ⟨g2, hg2, ho2⟩ := Own.of_dst' d2
      obtain ⟨A1, cu1, rfl⟩ := ho1.len
      obtain ⟨A2, cu2, rfl⟩ := ho2.len
      have hne : 0 < ch.length → w.heap.size + 1 ≤ g1 ∧ w.heap.size + 1 ≤ g2 ∧ g1 ≠ g2 := fun h0 => ⟨(hg1 h0).2, (hg2 h0).2, fun e => dne g1 (hg1 h0).1 (by rw [e]; exact (hg2 h0).1)⟩
      have Hne := Lib.hid hne
      have Hbo : Hid (BoSt w ch.length g1 g2 (.slice A1 ch.length cu1) (.slice A2 ch.length cu2) (loX ls (frsL ch) 0) (upX (ls.map lkRev) (tosL ch) 0) wr) := Lib.hid ⟨hx, ho1, ho2⟩
      clear d1 d2 dne hg1 hg2 ho1 ho2 hne Hst hx hl1 hl2
      go_wp2_with fail
      go_loopg [11] (ch.length + 1) (fun q i wq => ∃ r : Nat, r + q = ch.length + 1 ∧ i = .int .i64 r ∧
        BoSt w ch.length g1 g2 (.slice A1 ch.length cu1) (.slice A2 ch.length cu2) (loX ls (frsL ch) r) (upX (ls.map lkRev) (tosL ch) r) wq ∧ Hid (Ne2 ls (ls.map lkRev) ch r))
      case atStart => exact ⟨0, by omega, rfl, Hbo.out, Lib.hid Ne2.zero⟩
      clear Hbo
      case round =>
        obtain ⟨r, hr, rfl, hbo, Hn2⟩ := hrel
        have Hr := Lib.hid hr
        have hrl : r ≤ ch.length + 1 := by omega
        have Hbo := Lib.hid hbo
        clear hr hbo
        go_wp2_with fail
        go_loopg [12, 45] ls.length (fun q c i wq => ∃ (j : Nat) (b : Bool), j + q = ls.length ∧ c = .bool b ∧ i = .int .i64 j ∧
          BoSt w ch.length g1 g2 (.slice A1 ch.length cu1) (.slice A2 ch.length cu2) (loTo ls (loX ls (frsL ch) r) j) (upTo (ls.map lkRev) (upX (ls.map lkRev) (tosL ch) r) j) wq ∧
          Hid (b = true ↔ (loTo ls (loX ls (frsL ch) r) j ≠ loX ls (frsL ch) r ∨ upTo (ls.map lkRev) (upX (ls.map lkRev) (tosL ch) r) j ≠ upX (ls.map lkRev) (tosL ch) r)))
        case atStart => exact ⟨0, false, by omega, rfl, rfl, Hbo.out, Lib.hid ⟨(fun h => by cases h), (fun h => h.elim (fun h => absurd rfl h) (fun h => absurd rfl h))⟩⟩
        clear Hbo
        case round =>
          obtain ⟨j, b, hj, rfl, rfl, hbo, Hbx⟩ := hrel
          have Hj := Lib.hid hj
          have hxr := hbo.ext
          have Hbo := Lib.hid hbo
          clear hj hbo
          by_cases hjl : j < ls.length
          · obtain ⟨bl, offl, rfl, _, hbl, h1, h2, h3, h4⟩ := (H.out.ext hxr (Nat.le_refl _)).at_ hjl
            have Hlk := Lib.hid (Hlks.out j hjl)
            have Hlr := Lib.hid (Hrev.out j (by rw [Hrl.out]; exact hjl))
            have Hla : Hid (lkAt (ls.map lkRev) j = lkRev (lkAt ls j)) := Lib.hid (lkAt_map _ _ hjl)
            obtain ⟨⟨l1, l2⟩, ⟨l3, l4⟩, lne, ⟨l5, l6⟩, ⟨l7, l8⟩, _⟩ := Hlk.out
            have hN : 0 < ch.length := by omega
            obtain ⟨hg1, hg2, hg12⟩ := Hne.out hN
            obtain ⟨off1, rfl, -⟩ := Hbo.out.low.at_ hN
            obtain ⟨off2, rfl, -⟩ := Hbo.out.high.at_ hN
            have HyL : Hid ((loTo ls (loX ls (frsL ch) r) j).length = ch.length) := Lib.hid (by rw [loTo_len, loX_len, frsL_len])
            have HzL : Hid ((upTo (ls.map lkRev) (upX (ls.map lkRev) (tosL ch) r) j).length = ch.length) := Lib.hid (by rw [upTo_len, upX_len, tosL_len])
            have Hyb := Lib.hid (lo_bnd (r := r) (j := j) Hlks.out Hsp.out h8 h20 (by omega) (by omega))
            have Hzb := Lib.hid (hi_bnd (r := r) (j := j) Hrev.out Hsp.out h8 (by rw [Hrl.out]; exact h20) (by omega) (by rw [Hrl.out]; omega))
            have Hln := Lib.hid (lo_ne Hlk.out (by rw [loX_len, frsL_len]) HyL.out (fun i => loTo_ge ls (loX ls (frsL ch) r) i (j := j) (by omega)))
            have Hun := Lib.hid (up_ne Hlr.out (by rw [upX_len, tosL_len]) HzL.out (fun i => upTo_le (ls.map lkRev) (upX (ls.map lkRev) (tosL ch) r) i j))
            rw [Hla.out] at Hun
            generalize hyy : loTo ls (loX ls (frsL ch) r) j = y at Hbo HyL Hyb Hln Hbx
            generalize hzz : upTo (ls.map lkRev) (upX (ls.map lkRev) (tosL ch) r) j = z at Hbo HzL Hzb Hun Hbx
            have Hy := Lib.hid hyy
            have Hz := Lib.hid hzz
            clear hyy hzz
            have hafN : (lkAt ls j).af < (ch.length : Int) := by omega
            have hbeN : (lkAt ls j).be < (ch.length : Int) := by omega
            go_wp2_with fail
            (refine wp_region_onto prog_mixed (by kernel_rfl) ?_; (repeat (go_big_quiet_step ((fail)))); refine onto_end ?_; intro wl hxl)
            have hxrl : Ext wr wl := (by repeat (first | exact Ext.refl _ | assumption | refine Ext.alloc ?_ _ | refine Ext.drew ?_ | refine Ext.drewN ?_ _ | refine Ext.setCell ?_ (by first | (simp; done) | (simp; omega) | omega) _ | refine Ext.trans ?_ (by assumption)))
            have Hst1 := Lib.hid (Hbo.out.more hxrl)
            have Hlb1 := Lib.hid ((Boxed.new wr [.int .i64 (lkAt ls j).be, .int .i64 (lkAt ls j).af, .int .i64 (lkAt ls j).le, .int .i64 (lkAt ls j).mo] 118).ext (show Ext _ wl from (by repeat (first | exact Ext.refl _ | assumption | refine Ext.alloc ?_ _ | refine Ext.drew ?_ | refine Ext.drewN ?_ _ | refine Ext.setCell ?_ (by first | (simp; done) | (simp; omega) | omega) _ | refine Ext.trans ?_ (by assumption)))))
            have hgw1 : g1 < wr.heap.size := Hbo.out.low.lt hN
            have hgw2 : g2 < wr.heap.size := Hbo.out.high.lt hN
            clear h1 h2 h3 h4 Hbo hxl hxrl hxr hbl
            obtain ⟨y1, hd⟩ : ∃ q, lo1 (lkAt ls j) y = q := ⟨_, rfl⟩
            have Hd1 := Lib.hid hd
            clear hd
            obtain ⟨y2, hd⟩ : ∃ q, lo2 (lkAt ls j) y = q := ⟨_, rfl⟩
            have Hd2 := Lib.hid hd
            clear hd
            obtain ⟨z1, hd⟩ : ∃ q, up1 (lkRev (lkAt ls j)) z = q := ⟨_, rfl⟩
            have Hd3 := Lib.hid hd
            clear hd
            obtain ⟨z2, hd⟩ : ∃ q, up2 (lkRev (lkAt ls j)) z = q := ⟨_, rfl⟩
            have Hd4 := Lib.hid hd
            clear hd
            have Hlr' : Hid (LkOk (lkRev (lkAt ls j)) ch.length) := Lib.hid (by rw [← Hla.out]; exact Hlr.out)
            have Hy1b := Lib.hid (lo1_bnd Hlk.out Hyb.out)
            rw [Hd1.out] at Hy1b
            have Hz1b := Lib.hid (up1_bnd Hlr'.out Hzb.out)
            rw [Hd3.out] at Hz1b
            have Hlen2 : Hid (y1.length = ch.length) := Lib.hid (by rw [← Hd1.out, lo1_len]; exact HyL.out)
            have Hlen4 : Hid (z1.length = ch.length) := Lib.hid (by rw [← Hd3.out]; exact (relax_len _ _ _ _).trans HzL.out)
            obtain ⟨ya1, ya2⟩ := Hyb.out (lkAt ls j).af.toNat (by omega)
            obtain ⟨ya3, ya4⟩ := Hyb.out (lkAt ls j).be.toNat (by omega)
            obtain ⟨yb1, yb2⟩ := Hy1b.out (lkAt ls j).af.toNat (by omega)
            obtain ⟨yb3, yb4⟩ := Hy1b.out (lkAt ls j).be.toNat (by omega)
            obtain ⟨za1, za2⟩ := Hzb.out (lkAt ls j).af.toNat (by omega)
            obtain ⟨za3, za4⟩ := Hzb.out (lkAt ls j).be.toNat (by omega)
            obtain ⟨zb1, zb2⟩ := Hz1b.out (lkAt ls j).af.toNat (by omega)
            obtain ⟨zb3, zb4⟩ := Hz1b.out (lkAt ls j).be.toNat (by omega)
            generalize wr.heap.size = gl at *
            have hgl : gl < wl.heap.size := Hlb1.out.1
            go_upto_region 15 with fail
            go_cut [83, 84, 85] (fun a c e wy => ∃ (t1 t2 : Int) (gB : Nat), a = .slice (some ⟨gB, 0, none⟩) 2 2 ∧ c = .int .i64 2 ∧ e = .int .i64 0 ∧ t1 = max (inAt y (lkAt ls j).af.toNat) (inAt y (lkAt ls j).be.toNat + (lkAt ls j).le) ∧ t2 = min (inAt z (lkAt ls j).be.toNat) (inAt z (lkAt ls j).af.toNat - (lkAt ls j).le) ∧ gl < gB ∧ Boxed wy gB [(.slice (some ⟨g1, off1, none⟩) ch.length cu1), .int .i64 (lkAt ls j).af, .int .i64 t1, (.slice (some ⟨g2, off2, none⟩) ch.length cu2), .int .i64 (lkAt ls j).be, .int .i64 t2] ∧ BoSt w ch.length g1 g2 (.slice (some ⟨g1, off1, none⟩) ch.length cu1) (.slice (some ⟨g2, off2, none⟩) ch.length cu2) y z wy ∧ Boxed wy gl [.int .i64 (lkAt ls j).be, .int .i64 (lkAt ls j).af, .int .i64 (lkAt ls j).le, .int .i64 (lkAt ls j).mo])
            case first =>
              have lb := Hlb1.out; have lb0 := lb.at0; have lb1 := lb.at1; have lb2 := lb.at2; have lb3 := lb.at3; have lbg := lb.1; have Hlb := Lib.hid lb; clear lb
              obtain ⟨_, hcc⟩ := Hst1.out.low.cells hN
              have cA : wl.cell? ⟨g1, off1 + (lkAt ls j).af.toNat, none⟩ = some (.int .i64 (inAt y (lkAt ls j).af.toNat)) := (hcc _ (by omega)).1
              have cB : wl.cell? ⟨g1, off1 + (lkAt ls j).be.toNat, none⟩ = some (.int .i64 (inAt y (lkAt ls j).be.toNat)) := (hcc _ (by omega)).1
              clear hcc
              obtain ⟨_, hcc⟩ := Hst1.out.high.cells hN
              have dA : wl.cell? ⟨g2, off2 + (lkAt ls j).af.toNat, none⟩ = some (.int .i64 (inAt z (lkAt ls j).af.toNat)) := (hcc _ (by omega)).1
              have dB : wl.cell? ⟨g2, off2 + (lkAt ls j).be.toNat, none⟩ = some (.int .i64 (inAt z (lkAt ls j).be.toNat)) := (hcc _ (by omega)).1
              clear hcc
              have W1 : IntKind.i64.wrap (inAt y (lkAt ls j).be.toNat + (lkAt ls j).le) = inAt y (lkAt ls j).be.toNat + (lkAt ls j).le := IntWalk.i64_in _ (by omega)
              have W2 : IntKind.i64.wrap (inAt z (lkAt ls j).af.toNat - (lkAt ls j).le) = inAt z (lkAt ls j).af.toNat - (lkAt ls j).le := IntWalk.i64_in _ (by omega)
              go_wp2_with fail
              go_region_held3 (fun w' => w'.cell? ⟨g1, off1 + (lkAt ls j).af.toNat, none⟩ = some (.int .i64 (inAt y (lkAt ls j).af.toNat)) ∧ w'.cell? ⟨g1, off1 + (lkAt ls j).be.toNat, none⟩ = some (.int .i64 (inAt y (lkAt ls j).be.toNat)) ∧ w'.cell? ⟨g2, off2 + (lkAt ls j).af.toNat, none⟩ = some (.int .i64 (inAt z (lkAt ls j).af.toNat)) ∧ w'.cell? ⟨g2, off2 + (lkAt ls j).be.toNat, none⟩ = some (.int .i64 (inAt z (lkAt ls j).be.toNat)) ∧ w'.cell? ⟨gl, 2, none⟩ = some (.int .i64 (lkAt ls j).le)) (go_keep) (fail)
              all_goals go_wp2_with fail
              all_goals
                go_meet
                exact ⟨_, _, wl.heap.size, rfl, rfl, rfl, by first | omega | (rw [Int.max_def]; split <;> omega), by first | omega | (rw [Int.min_def]; split <;> omega), hgl, ((Boxed.new wl _ _).ext (Ext.drew (Ext.refl _))), Hst1.out.more (by repeat (first | exact Ext.refl _ | assumption | refine Ext.alloc ?_ _ | refine Ext.drew ?_ | refine Ext.drewN ?_ _ | refine Ext.setCell ?_ (by first | (simp; done) | (simp; omega) | omega) _ | refine Ext.trans ?_ (by assumption))), Hlb.out.ext (by repeat (first | exact Ext.refl _ | assumption | refine Ext.alloc ?_ _ | refine Ext.drew ?_ | refine Ext.drewN ?_ _ | refine Ext.setCell ?_ (by first | (simp; done) | (simp; omega) | omega) _ | refine Ext.trans ?_ (by assumption)))⟩
            obtain ⟨wx1, rfl⟩ : ∃ x : World, x = wc := ⟨_, rfl⟩
            obtain ⟨t1, t2, gB, rfl, rfl, rfl, he1, he2, hgB, hB, hst, hlb⟩ := hcut
            have He1 := Lib.hid he1
            have He2 := Lib.hid he2
            have HB1 := Lib.hid hB
            have Hst2 := Lib.hid hst
            have Hlb2 := Lib.hid hlb
            clear he1 he2 hB hst hlb Hst1 Hlb1 hgl
            have Hq1 : Hid (y.set (lkAt ls j).af.toNat t1 = y1) := Lib.hid (by rw [← Hd1.out, He1.out]; exact lift_max.symm)
            have Hq3 : Hid (z.set (lkAt ls j).be.toNat t2 = z1) := Lib.hid (by rw [← Hd3.out, He2.out, Int.sub_eq_add_neg]; exact relax_min.symm)
            go_wp2_with fail
            go_loopg [12, 85] 2 (fun q c i wq => ∃ b' : Bool, c = .bool b' ∧ ((q = 2 ∧ i = .int .i64 0 ∧ (BoSt w ch.length g1 g2 (.slice (some ⟨g1, off1, none⟩) ch.length cu1) (.slice (some ⟨g2, off2, none⟩) ch.length cu2) y z wq ∧ Boxed wq gB [(.slice (some ⟨g1, off1, none⟩) ch.length cu1), .int .i64 (lkAt ls j).af, .int .i64 t1, (.slice (some ⟨g2, off2, none⟩) ch.length cu2), .int .i64 (lkAt ls j).be, .int .i64 t2] ∧ Boxed wq gl [.int .i64 (lkAt ls j).be, .int .i64 (lkAt ls j).af, .int .i64 (lkAt ls j).le, .int .i64 (lkAt ls j).mo]) ∧ Hid (b' = true ↔ b = true)) ∨ (q = 1 ∧ i = .int .i64 1 ∧ (BoSt w ch.length g1 g2 (.slice (some ⟨g1, off1, none⟩) ch.length cu1) (.slice (some ⟨g2, off2, none⟩) ch.length cu2) y1 z wq ∧ Boxed wq gB [(.slice (some ⟨g1, off1, none⟩) ch.length cu1), .int .i64 (lkAt ls j).af, .int .i64 t1, (.slice (some ⟨g2, off2, none⟩) ch.length cu2), .int .i64 (lkAt ls j).be, .int .i64 t2] ∧ Boxed wq gl [.int .i64 (lkAt ls j).be, .int .i64 (lkAt ls j).af, .int .i64 (lkAt ls j).le, .int .i64 (lkAt ls j).mo]) ∧ Hid (b' = true ↔ (b = true ∨ inAt y (lkAt ls j).af.toNat ≠ t1))) ∨ (q = 0 ∧ i = .int .i64 2 ∧ (BoSt w ch.length g1 g2 (.slice (some ⟨g1, off1, none⟩) ch.length cu1) (.slice (some ⟨g2, off2, none⟩) ch.length cu2) y1 z1 wq ∧ Boxed wq gB [(.slice (some ⟨g1, off1, none⟩) ch.length cu1), .int .i64 (lkAt ls j).af, .int .i64 t1, (.slice (some ⟨g2, off2, none⟩) ch.length cu2), .int .i64 (lkAt ls j).be, .int .i64 t2] ∧ Boxed wq gl [.int .i64 (lkAt ls j).be, .int .i64 (lkAt ls j).af, .int .i64 (lkAt ls j).le, .int .i64 (lkAt ls j).mo]) ∧ Hid (b' = true ↔ ((b = true ∨ inAt y (lkAt ls j).af.toNat ≠ t1) ∨ inAt z (lkAt ls j).be.toNat ≠ t2)))))
            case atStart => exact ⟨b, rfl, .inl ⟨rfl, rfl, ⟨Hst2.out, HB1.out, Hlb2.out⟩, Lib.hid Iff.rfl⟩⟩
            clear Hst2 HB1 Hlb2
            case round =>
              obtain ⟨b', rfl, hh⟩ := hrel
              rcases hh with ⟨hq, rfl, ⟨hst, hB, hlb⟩, Hb'⟩ | ⟨hq, rfl, ⟨hst, hB, hlb⟩, Hb'⟩ | ⟨hq, rfl, ⟨hst, hB, hlb⟩, Hb'⟩
              · have Hst := Lib.hid hst
                have HB := Lib.hid hB
                have Hlb := Lib.hid hlb
                have Hq := Lib.hid hq
                clear hst hB hlb hq
                have k0 := (HB.out.2 0 _ rfl).1
                have k1 := (HB.out.2 1 _ rfl).1
                have k2 := (HB.out.2 2 _ rfl).1
                have kz := HB.out.1
                obtain ⟨_, hcc⟩ := Hst.out.low.cells hN
                have cA : wr.cell? ⟨g1, off1 + (lkAt ls j).af.toNat, none⟩ = some (.int .i64 (inAt y (lkAt ls j).af.toNat)) := (hcc _ (by omega)).1
                clear hcc
                have gz : g1 < wr.heap.size := Hst.out.low.lt hN
                cases b'
                · go_wp2_with fail
                  (refine wp_region_onto prog_mixed (by kernel_rfl) ?_; (repeat (go_big_quiet_step ((fail)))); refine onto_end ?_; intro wv hv)
                  have hvx : Ext wr wv := (by repeat (first | exact Ext.refl _ | assumption | refine Ext.alloc ?_ _ | refine Ext.drew ?_ | refine Ext.drewN ?_ _ | refine Ext.setCell ?_ (by first | (simp; done) | (simp; omega) | omega) _ | refine Ext.trans ?_ (by assumption)))
                  have Hel := Lib.hid ((Boxed.new wr [(.slice (some ⟨g1, off1, none⟩) ch.length cu1), .int .i64 (lkAt ls j).af, .int .i64 t1] 327).ext (show Ext _ wv from (by repeat (first | exact Ext.refl _ | assumption | refine Ext.alloc ?_ _ | refine Ext.drew ?_ | refine Ext.drewN ?_ _ | refine Ext.setCell ?_ (by first | (simp; done) | (simp; omega) | omega) _ | refine Ext.trans ?_ (by assumption)))))
                  have Hst' := Lib.hid (Hst.out.more hvx)
                  have HB' := Lib.hid (HB.out.ext hvx)
                  have Hlb' := Lib.hid (Hlb.out.ext hvx)
                  clear k0 k1 k2 kz cA gz Hst HB Hlb
                  have el := Hel.out; have el0 := el.at0; have el1 := el.at1; have el2 := el.at2; have elg := el.1; have Hel := Lib.hid el; clear el
                  obtain ⟨_, hcc⟩ := Hst'.out.low.cells hN
                  have cA : wv.cell? ⟨g1, off1 + (lkAt ls j).af.toNat, none⟩ = some (.int .i64 (inAt y (lkAt ls j).af.toNat)) := (hcc _ (by omega)).1
                  have cfA : wv.frozen? ⟨g1, off1 + (lkAt ls j).af.toNat, none⟩ = false := (hcc _ (by omega)).2
                  clear hcc
                  go_wp2_with fail
                  go_roundg 1
                  case measure => have := Hq.out; omega
                  case rel =>
                    have e5 := Hst'.out.setLow (v := (lkAt ls j).af.toNat) (by omega) (by omega) (by omega) (by exact HyL.out) t1
                    rw [Hq1.out] at e5
                    exact ⟨_, rfl, .inr (.inl ⟨by have := Hq.out; omega, rfl, ⟨e5, HB'.out.setOther (by show _ ≠ g1; omega) _, Hlb'.out.setOther (by show _ ≠ g1; omega) _⟩, Lib.hid ⟨fun h => .inr (by simpa using h), fun h => h.elim (fun h => by cases Hb'.out.2 h) (fun h => by simpa using h)⟩⟩)⟩
                · go_wp2_with fail
                  (refine wp_region_onto prog_mixed (by kernel_rfl) ?_; (repeat (go_big_quiet_step ((fail)))); refine onto_end ?_; intro wv hv)
                  have hvx : Ext wr wv := (by repeat (first | exact Ext.refl _ | assumption | refine Ext.alloc ?_ _ | refine Ext.drew ?_ | refine Ext.drewN ?_ _ | refine Ext.setCell ?_ (by first | (simp; done) | (simp; omega) | omega) _ | refine Ext.trans ?_ (by assumption)))
                  have Hel := Lib.hid ((Boxed.new wr [(.slice (some ⟨g1, off1, none⟩) ch.length cu1), .int .i64 (lkAt ls j).af, .int .i64 t1] 327).ext (show Ext _ wv from (by repeat (first | exact Ext.refl _ | assumption | refine Ext.alloc ?_ _ | refine Ext.drew ?_ | refine Ext.drewN ?_ _ | refine Ext.setCell ?_ (by first | (simp; done) | (simp; omega) | omega) _ | refine Ext.trans ?_ (by assumption)))))
                  have Hst' := Lib.hid (Hst.out.more hvx)
                  have HB' := Lib.hid (HB.out.ext hvx)
                  have Hlb' := Lib.hid (Hlb.out.ext hvx)
                  clear k0 k1 k2 kz cA gz Hst HB Hlb
                  have el := Hel.out; have el0 := el.at0; have el1 := el.at1; have el2 := el.at2; have elg := el.1; have Hel := Lib.hid el; clear el
                  obtain ⟨_, hcc⟩ := Hst'.out.low.cells hN
                  have cA : wv.cell? ⟨g1, off1 + (lkAt ls j).af.toNat, none⟩ = some (.int .i64 (inAt y (lkAt ls j).af.toNat)) := (hcc _ (by omega)).1
                  have cfA : wv.frozen? ⟨g1, off1 + (lkAt ls j).af.toNat, none⟩ = false := (hcc _ (by omega)).2
                  clear hcc
                  go_wp2_with fail
                  go_roundg 1
                  case measure => have := Hq.out; omega
                  case rel =>
                    have e5 := Hst'.out.setLow (v := (lkAt ls j).af.toNat) (by omega) (by omega) (by omega) (by exact HyL.out) t1
                    rw [Hq1.out] at e5
                    exact ⟨_, rfl, .inr (.inl ⟨by have := Hq.out; omega, rfl, ⟨e5, HB'.out.setOther (by show _ ≠ g1; omega) _, Hlb'.out.setOther (by show _ ≠ g1; omega) _⟩, Lib.hid ⟨fun _ => .inl (Hb'.out.1 (by first | rfl | trivial)), fun _ => rfl⟩⟩)⟩
              · have Hst := Lib.hid hst
                have HB := Lib.hid hB
                have Hlb := Lib.hid hlb
                have Hq := Lib.hid hq
                clear hst hB hlb hq
                have k0 := (HB.out.2 3 _ rfl).1
                have k1 := (HB.out.2 4 _ rfl).1
                have k2 := (HB.out.2 5 _ rfl).1
                have kz := HB.out.1
                obtain ⟨_, hcc⟩ := Hst.out.high.cells hN
                have dB : wr.cell? ⟨g2, off2 + (lkAt ls j).be.toNat, none⟩ = some (.int .i64 (inAt z (lkAt ls j).be.toNat)) := (hcc _ (by omega)).1
                clear hcc
                have gz : g2 < wr.heap.size := Hst.out.high.lt hN
                cases b'
                · go_wp2_with fail
                  (refine wp_region_onto prog_mixed (by kernel_rfl) ?_; (repeat (go_big_quiet_step ((fail)))); refine onto_end ?_; intro wv hv)
                  have hvx : Ext wr wv := (by repeat (first | exact Ext.refl _ | assumption | refine Ext.alloc ?_ _ | refine Ext.drew ?_ | refine Ext.drewN ?_ _ | refine Ext.setCell ?_ (by first | (simp; done) | (simp; omega) | omega) _ | refine Ext.trans ?_ (by assumption)))
                  have Hel := Lib.hid ((Boxed.new wr [(.slice (some ⟨g2, off2, none⟩) ch.length cu2), .int .i64 (lkAt ls j).be, .int .i64 t2] 327).ext (show Ext _ wv from (by repeat (first | exact Ext.refl _ | assumption | refine Ext.alloc ?_ _ | refine Ext.drew ?_ | refine Ext.drewN ?_ _ | refine Ext.setCell ?_ (by first | (simp; done) | (simp; omega) | omega) _ | refine Ext.trans ?_ (by assumption)))))
                  have Hst' := Lib.hid (Hst.out.more hvx)
                  have HB' := Lib.hid (HB.out.ext hvx)
                  have Hlb' := Lib.hid (Hlb.out.ext hvx)
                  clear k0 k1 k2 kz dB gz Hst HB Hlb
                  have el := Hel.out; have el0 := el.at0; have el1 := el.at1; have el2 := el.at2; have elg := el.1; have Hel := Lib.hid el; clear el
                  obtain ⟨_, hcc⟩ := Hst'.out.high.cells hN
                  have dB : wv.cell? ⟨g2, off2 + (lkAt ls j).be.toNat, none⟩ = some (.int .i64 (inAt z (lkAt ls j).be.toNat)) := (hcc _ (by omega)).1
                  have dfB : wv.frozen? ⟨g2, off2 + (lkAt ls j).be.toNat, none⟩ = false := (hcc _ (by omega)).2
                  clear hcc
                  go_wp2_with fail
                  go_roundg 0
                  case measure => have := Hq.out; omega
                  case rel =>
                    have e5 := Hst'.out.setHigh (v := (lkAt ls j).be.toNat) (by omega) (by omega) (by omega) (by exact HzL.out) t2
                    rw [Hq3.out] at e5
                    exact ⟨_, rfl, .inr (.inr ⟨by have := Hq.out; omega, rfl, ⟨e5, HB'.out.setOther (by show _ ≠ g2; omega) _, Hlb'.out.setOther (by show _ ≠ g2; omega) _⟩, Lib.hid ⟨fun h => .inr (by simpa using h), fun h => h.elim (fun h => by cases Hb'.out.2 h) (fun h => by simpa using h)⟩⟩)⟩
                · go_wp2_with fail
                  (refine wp_region_onto prog_mixed (by kernel_rfl) ?_; (repeat (go_big_quiet_step ((fail)))); refine onto_end ?_; intro wv hv)
                  have hvx : Ext wr wv := (by repeat (first | exact Ext.refl _ | assumption | refine Ext.alloc ?_ _ | refine Ext.drew ?_ | refine Ext.drewN ?_ _ | refine Ext.setCell ?_ (by first | (simp; done) | (simp; omega) | omega) _ | refine Ext.trans ?_ (by assumption)))
                  have Hel := Lib.hid ((Boxed.new wr [(.slice (some ⟨g2, off2, none⟩) ch.length cu2), .int .i64 (lkAt ls j).be, .int .i64 t2] 327).ext (show Ext _ wv from (by repeat (first | exact Ext.refl _ | assumption | refine Ext.alloc ?_ _ | refine Ext.drew ?_ | refine Ext.drewN ?_ _ | refine Ext.setCell ?_ (by first | (simp; done) | (simp; omega) | omega) _ | refine Ext.trans ?_ (by assumption)))))
                  have Hst' := Lib.hid (Hst.out.more hvx)
                  have HB' := Lib.hid (HB.out.ext hvx)
                  have Hlb' := Lib.hid (Hlb.out.ext hvx)
                  clear k0 k1 k2 kz dB gz Hst HB Hlb
                  have el := Hel.out; have el0 := el.at0; have el1 := el.at1; have el2 := el.at2; have elg := el.1; have Hel := Lib.hid el; clear el
                  obtain ⟨_, hcc⟩ := Hst'.out.high.cells hN
                  have dB : wv.cell? ⟨g2, off2 + (lkAt ls j).be.toNat, none⟩ = some (.int .i64 (inAt z (lkAt ls j).be.toNat)) := (hcc _ (by omega)).1
                  have dfB : wv.frozen? ⟨g2, off2 + (lkAt ls j).be.toNat, none⟩ = false := (hcc _ (by omega)).2
                  clear hcc
                  go_wp2_with fail
                  go_roundg 0
                  case measure => have := Hq.out; omega
                  case rel =>
                    have e5 := Hst'.out.setHigh (v := (lkAt ls j).be.toNat) (by omega) (by omega) (by omega) (by exact HzL.out) t2
                    rw [Hq3.out] at e5
                    exact ⟨_, rfl, .inr (.inr ⟨by have := Hq.out; omega, rfl, ⟨e5, HB'.out.setOther (by show _ ≠ g2; omega) _, Hlb'.out.setOther (by show _ ≠ g2; omega) _⟩, Lib.hid ⟨fun _ => .inl (Hb'.out.1 (by first | rfl | trivial)), fun _ => rfl⟩⟩)⟩
              · have Hst3 := Lib.hid hst
                have Hlb3 := Lib.hid hlb
                clear hst hB hlb hq
                go_upto_region 21 with fail
                go_cut [19] (fun a wy => ∃ t : Int, a = .int .i64 t ∧ t = max (inAt y1 (lkAt ls j).be.toNat) (inAt y1 (lkAt ls j).af.toNat - (lkAt ls j).mo) ∧ BoSt w ch.length g1 g2 (.slice (some ⟨g1, off1, none⟩) ch.length cu1) (.slice (some ⟨g2, off2, none⟩) ch.length cu2) y1 z1 wy ∧ Boxed wy gl [.int .i64 (lkAt ls j).be, .int .i64 (lkAt ls j).af, .int .i64 (lkAt ls j).le, .int .i64 (lkAt ls j).mo])
                case first =>
                  have lb := Hlb3.out; have lb0 := lb.at0; have lb1 := lb.at1; have lb2 := lb.at2; have lb3 := lb.at3; have lbg := lb.1; have Hlb := Lib.hid lb; clear lb
                  obtain ⟨_, hcc⟩ := Hst3.out.low.cells hN
                  have cA : wr.cell? ⟨g1, off1 + (lkAt ls j).af.toNat, none⟩ = some (.int .i64 (inAt y1 (lkAt ls j).af.toNat)) := (hcc _ (by omega)).1
                  have cB : wr.cell? ⟨g1, off1 + (lkAt ls j).be.toNat, none⟩ = some (.int .i64 (inAt y1 (lkAt ls j).be.toNat)) := (hcc _ (by omega)).1
                  clear hcc
                  go_wp2_with fail
                  go_region
                  go_wp2_with fail
                  all_goals
                    go_meet
                    refine ⟨_, rfl, ?_, Hst3.out.more (by repeat (first | exact Ext.refl _ | assumption | refine Ext.alloc ?_ _ | refine Ext.drew ?_ | refine Ext.drewN ?_ _ | refine Ext.setCell ?_ (by first | (simp; done) | (simp; omega) | omega) _ | refine Ext.trans ?_ (by assumption))), Hlb.out.ext (by repeat (first | exact Ext.refl _ | assumption | refine Ext.alloc ?_ _ | refine Ext.drew ?_ | refine Ext.drewN ?_ _ | refine Ext.setCell ?_ (by first | (simp; done) | (simp; omega) | omega) _ | refine Ext.trans ?_ (by assumption)))⟩
                    first | omega | (rw [Int.max_def]; split <;> omega)
                obtain ⟨wx2, rfl⟩ : ∃ x : World, x = wc := ⟨_, rfl⟩
                obtain ⟨t3, rfl, he, hst, hlb⟩ := hcut
                have He3 := Lib.hid he
                have Hst4 := Lib.hid hst
                have Hlb4 := Lib.hid hlb
                clear he hst hlb Hst3 Hlb3
                have Hq2 : Hid (y1.set (lkAt ls j).be.toNat t3 = y2) := Lib.hid (by rw [← Hd2.out]; unfold lo2; rw [Hd1.out, He3.out, Int.sub_eq_add_neg]; exact lift_max.symm)
                have lb := Hlb4.out; have lb0 := lb.at0; have lb1 := lb.at1; have lb2 := lb.at2; have lb3 := lb.at3; have lbg := lb.1; have Hlb := Lib.hid lb; clear lb
                obtain ⟨_, hcc⟩ := Hst4.out.low.cells hN
                have cB : wx2.cell? ⟨g1, off1 + (lkAt ls j).be.toNat, none⟩ = some (.int .i64 (inAt y1 (lkAt ls j).be.toNat)) := (hcc _ (by omega)).1
                have cfB : wx2.frozen? ⟨g1, off1 + (lkAt ls j).be.toNat, none⟩ = false := (hcc _ (by omega)).2
                clear hcc
                go_upto_if 126 with fail
                go_cut [12] (fun c wy => ∃ b3 : Bool, c = .bool b3 ∧ (b3 = true ↔ (b' = true ∨ t3 ≠ inAt y1 (lkAt ls j).be.toNat)) ∧ BoSt w ch.length g1 g2 (.slice (some ⟨g1, off1, none⟩) ch.length cu1) (.slice (some ⟨g2, off2, none⟩) ch.length cu2) y2 z1 wy ∧ Boxed wy gl [.int .i64 (lkAt ls j).be, .int .i64 (lkAt ls j).af, .int .i64 (lkAt ls j).le, .int .i64 (lkAt ls j).mo])
                case first =>
                  by_cases t : t3 = inAt y1 (lkAt ls j).be.toNat
                  · have T1 : (t3 != inAt y1 (lkAt ls j).be.toNat) = false := by simpa using t
                    have T2 : (t3 == inAt y1 (lkAt ls j).be.toNat) = true := by simpa using t
                    have T3 : decide (t3 = inAt y1 (lkAt ls j).be.toNat) = true := by simpa using t
                    have Ht := Lib.hid t
                    clear t
                    go_wp2_with fail
                    go_meet
                    refine ⟨b', rfl, ⟨fun h => .inl h, fun h => h.elim id (fun h => absurd Ht.out h)⟩, ?_, Hlb.out⟩
                    have e5 : y2 = y1 := by rw [← Hq2.out, Ht.out, inAt_set_self]
                    rw [e5]
                    exact Hst4.out
                  · have T1 : (t3 != inAt y1 (lkAt ls j).be.toNat) = true := by simpa using t
                    have T2 : (t3 == inAt y1 (lkAt ls j).be.toNat) = false := by simpa using t
                    have T3 : decide (t3 = inAt y1 (lkAt ls j).be.toNat) = false := by simpa using t
                    have Ht := Lib.hid t
                    clear t
                    go_wp2_with fail
                    go_meet
                    refine ⟨true, rfl, ⟨fun _ => .inr Ht.out, fun _ => rfl⟩, ?_, Hlb.out.setOther (by show _ ≠ g1; omega) _⟩
                    rw [← Hq2.out]
                    exact Hst4.out.setLow (by omega) (by omega) (by omega) (by exact Hlen2.out) _
                obtain ⟨wx3, rfl⟩ : ∃ x : World, x = wc := ⟨_, rfl⟩
                obtain ⟨b3, rfl, hb3, hst, hlb⟩ := hcut
                have Hb3 := Lib.hid hb3
                have Hst5 := Lib.hid hst
                have Hlb5 := Lib.hid hlb
                clear hb3 hst hlb lb0 lb1 lb2 lb3 lbg Hlb cB cfB Hst4
                go_upto_region 24 with fail
                go_cut [20] (fun a wy => ∃ t : Int, a = .int .i64 t ∧ t = min (inAt z1 (lkAt ls j).af.toNat) (inAt z1 (lkAt ls j).be.toNat + (lkAt ls j).mo) ∧ BoSt w ch.length g1 g2 (.slice (some ⟨g1, off1, none⟩) ch.length cu1) (.slice (some ⟨g2, off2, none⟩) ch.length cu2) y2 z1 wy ∧ Boxed wy gl [.int .i64 (lkAt ls j).be, .int .i64 (lkAt ls j).af, .int .i64 (lkAt ls j).le, .int .i64 (lkAt ls j).mo])
                case first =>
                  have lb := Hlb5.out; have lb0 := lb.at0; have lb1 := lb.at1; have lb2 := lb.at2; have lb3 := lb.at3; have lbg := lb.1; have Hlb := Lib.hid lb; clear lb
                  obtain ⟨_, hcc⟩ := Hst5.out.high.cells hN
                  have dA : wx3.cell? ⟨g2, off2 + (lkAt ls j).af.toNat, none⟩ = some (.int .i64 (inAt z1 (lkAt ls j).af.toNat)) := (hcc _ (by omega)).1
                  have dB : wx3.cell? ⟨g2, off2 + (lkAt ls j).be.toNat, none⟩ = some (.int .i64 (inAt z1 (lkAt ls j).be.toNat)) := (hcc _ (by omega)).1
                  clear hcc
                  go_wp2_with fail
                  go_region
                  go_wp2_with fail
                  all_goals
                    go_meet
                    refine ⟨_, rfl, ?_, Hst5.out.more (by repeat (first | exact Ext.refl _ | assumption | refine Ext.alloc ?_ _ | refine Ext.drew ?_ | refine Ext.drewN ?_ _ | refine Ext.setCell ?_ (by first | (simp; done) | (simp; omega) | omega) _ | refine Ext.trans ?_ (by assumption))), Hlb.out.ext (by repeat (first | exact Ext.refl _ | assumption | refine Ext.alloc ?_ _ | refine Ext.drew ?_ | refine Ext.drewN ?_ _ | refine Ext.setCell ?_ (by first | (simp; done) | (simp; omega) | omega) _ | refine Ext.trans ?_ (by assumption)))⟩
                    first | omega | (rw [Int.min_def]; split <;> omega)
                obtain ⟨wx4, rfl⟩ : ∃ x : World, x = wc := ⟨_, rfl⟩
                obtain ⟨t4, rfl, he, hst, hlb⟩ := hcut
                have He4 := Lib.hid he
                have Hst6 := Lib.hid hst
                have Hlb6 := Lib.hid hlb
                clear he hst hlb Hst5 Hlb5
                have Hq4 : Hid (z1.set (lkAt ls j).af.toNat t4 = z2) := Lib.hid (by rw [← Hd4.out]; unfold up2; rw [Hd3.out, He4.out]; show _ = relax z1 (lkAt ls j).af.toNat (lkAt ls j).be.toNat (- -(lkAt ls j).mo); rw [Int.neg_neg]; exact relax_min.symm)
                have lb := Hlb6.out; have lb0 := lb.at0; have lb1 := lb.at1; have lb2 := lb.at2; have lb3 := lb.at3; have lbg := lb.1; have Hlb := Lib.hid lb; clear lb
                obtain ⟨_, hcc⟩ := Hst6.out.high.cells hN
                have dA : wx4.cell? ⟨g2, off2 + (lkAt ls j).af.toNat, none⟩ = some (.int .i64 (inAt z1 (lkAt ls j).af.toNat)) := (hcc _ (by omega)).1
                have dfA : wx4.frozen? ⟨g2, off2 + (lkAt ls j).af.toNat, none⟩ = false := (hcc _ (by omega)).2
                clear hcc
                have e3 : loTo ls (loX ls (frsL ch) r) (j + 1) = y2 := by show lo2 _ (loTo _ _ _) = _; rw [Hy.out, Hd2.out]
                have e6 : upTo (ls.map lkRev) (upX (ls.map lkRev) (tosL ch) r) (j + 1) = z2 := by show up2 _ (upTo _ _ _) = _; rw [Hz.out, Hla.out, Hd4.out]
                have H3 := Lib.hid e3
                have H6 := Lib.hid e6
                clear e3 e6
                by_cases t : t4 = inAt z1 (lkAt ls j).af.toNat
                · have T1 : (t4 != inAt z1 (lkAt ls j).af.toNat) = false := by simpa using t
                  have T2 : (t4 == inAt z1 (lkAt ls j).af.toNat) = true := by simpa using t
                  have T3 : decide (t4 = inAt z1 (lkAt ls j).af.toNat) = true := by simpa using t
                  have Ht := Lib.hid t
                  clear t
                  go_wp2_with fail
                  go_roundg (ls.length - (j + 1))
                  case measure => have := Hj.out; omega
                  case rel =>
                    refine ⟨j + 1, b3, by have := Hj.out; omega, rfl, by go_num, ?_, ?_⟩
                    · have e5 : z2 = z1 := by rw [← Hq4.out, Ht.out, inAt_set_self]
                      rw [H3.out, H6.out, e5]; exact Hst6.out
                    · rw [H3.out, H6.out]
                      have ht := turn_neI (l := lkAt ls j) (x := loX ls (frsL ch) r) (y := y) (y1 := y1) (y2 := y2) (x' := upX (ls.map lkRev) (tosL ch) r) (z := z) (z1 := z1) (z2 := z2) Hln.out Hun.out Hd1.out Hd2.out Hd3.out Hd4.out He1.out He2.out He3.out He4.out
                      exact Lib.hid ((turn_allI (show b3 = true ↔ (b3 = true ∨ t4 ≠ inAt z1 (lkAt ls j).af.toNat) from ⟨fun h => .inl h, fun h => h.elim id (fun h => absurd Ht.out h)⟩) Hb3.out Hb'.out Hbx.out).trans ht)
                · have T1 : (t4 != inAt z1 (lkAt ls j).af.toNat) = true := by simpa using t
                  have T2 : (t4 == inAt z1 (lkAt ls j).af.toNat) = false := by simpa using t
                  have T3 : decide (t4 = inAt z1 (lkAt ls j).af.toNat) = false := by simpa using t
                  have Ht := Lib.hid t
                  clear t
                  go_wp2_with fail
                  go_roundg (ls.length - (j + 1))
                  case measure => have := Hj.out; omega
                  case rel =>
                    refine ⟨j + 1, true, by have := Hj.out; omega, rfl, by go_num, ?_, ?_⟩
                    · rw [H3.out, H6.out, ← Hq4.out]; exact Hst6.out.setHigh (by omega) (by omega) (by omega) (by exact Hlen4.out) _
                    · rw [H3.out, H6.out]
                      have ht := turn_neI (l := lkAt ls j) (x := loX ls (frsL ch) r) (y := y) (y1 := y1) (y2 := y2) (x' := upX (ls.map lkRev) (tosL ch) r) (z := z) (z1 := z1) (z2 := z2) Hln.out Hun.out Hd1.out Hd2.out Hd3.out Hd4.out He1.out He2.out He3.out He4.out
                      exact Lib.hid ((turn_allI (show true = true ↔ (b3 = true ∨ t4 ≠ inAt z1 (lkAt ls j).af.toNat) from ⟨fun _ => .inr Ht.out, fun _ => rfl⟩) Hb3.out Hb'.out Hbx.out).trans ht)
          · obtain rfl : j = ls.length := by have := Hj.out; omega
            have Hbo2 : Hid (BoSt w ch.length g1 g2 (.slice A1 ch.length cu1) (.slice A2 ch.length cu2) (loX ls (frsL ch) (r + 1)) (upX (ls.map lkRev) (tosL ch) (r + 1)) wr) := Lib.hid (by rw [upX_step]; exact Hbo.out)
            have Hbx2 : Hid (b = true ↔ ¬ Still2 ls (ls.map lkRev) ch r) := Lib.hid (by refine Iff.trans ?_ (not_still ls (ls.map lkRev) ch r); rw [upX_step]; exact Hbx.out)
            have Hlob : Hid (∀ i, i < ch.length → 0 ≤ inAt (loX ls (frsL ch) (r + 1)) i ∧ inAt (loX ls (frsL ch) (r + 1)) i ≤ 500000000) := Lib.hid (lo_bnd (r := r + 1) (j := 0) Hlks.out Hsp.out h8 h20 (by omega) (by omega))
            have Hhib : Hid (∀ i, i < ch.length → -500000000 ≤ inAt (upX (ls.map lkRev) (tosL ch) (r + 1)) i ∧ inAt (upX (ls.map lkRev) (tosL ch) (r + 1)) i ≤ 730499) := Lib.hid (hi_bnd (r := r + 1) (j := 0) Hrev.out Hsp.out h8 (by rw [Hrl.out]; exact h20) (by omega) (by omega))
            clear Hbo Hbx hxr
            go_wp2_with fail
            go_loopg [156] ch.length (fun q i wq => ∃ t : Nat, t + q = ch.length ∧ i = .int .i64 t ∧ BoSt w ch.length g1 g2 (.slice A1 ch.length cu1) (.slice A2 ch.length cu2) (loX ls (frsL ch) (r + 1)) (upX (ls.map lkRev) (tosL ch) (r + 1)) wq ∧ Hid (NoI ls (ls.map lkRev) ch (r + 1) t))
            case atStart => exact ⟨0, by omega, rfl, Hbo2.out, Lib.hid (fun i hi => absurd hi (by omega))⟩
            clear Hbo2
            case round =>
              obtain ⟨t, ht, rfl, hbo, Hnx⟩ := hrel
              have Ht := Lib.hid ht
              have Hbo := Lib.hid hbo
              have hxr := hbo.ext
              clear ht hbo
              by_cases htl : t < ch.length
              · have hN : 0 < ch.length := by omega
                obtain ⟨off1, rfl, -⟩ := Hbo.out.low.at_ hN
                obtain ⟨off2, rfl, -⟩ := Hbo.out.high.at_ hN
                obtain ⟨_, hcl⟩ := Hbo.out.low.cells hN
                obtain ⟨_, hch⟩ := Hbo.out.high.cells hN
                have cL : wr.cell? ⟨g1, off1 + t, none⟩ = some (.int .i64 (inAt (loX ls (frsL ch) (r + 1)) t)) := (hcl t htl).1
                have cH : wr.cell? ⟨g2, off2 + t, none⟩ = some (.int .i64 (inAt (upX (ls.map lkRev) (tosL ch) (r + 1)) t)) := (hch t htl).1
                have hgw1 : g1 < wr.heap.size := Hbo.out.low.lt hN
                have hgw2 : g2 < wr.heap.size := Hbo.out.high.lt hN
                obtain ⟨b1, b2⟩ := Hlob.out t htl
                obtain ⟨b3, b4⟩ := Hhib.out t htl
                clear hcl hch
                by_cases t1 : inAt (upX (ls.map lkRev) (tosL ch) (r + 1)) t < inAt (loX ls (frsL ch) (r + 1)) t
                · have T1 : decide (inAt (upX (ls.map lkRev) (tosL ch) (r + 1)) t < inAt (loX ls (frsL ch) (r + 1)) t) = true := decide_eq_true t1
                  have Hbad := Lib.hid (crossI_bad Hlks.out Hrev.out Hal.out htl (r := r + 1) t1)
                  clear t1
                  go_wp2_with fail
                  (refine wp_region_onto prog_mixed (by kernel_rfl) ?_; (repeat (go_big_quiet_step ((fail)))); refine onto_end ?_; intro wq hxq)
                  go_wp2_with fail
                  refine bodyPost_ret (v := .tuple #[.slice none 0 0, .slice none 0 0, .bool false]) (by simp [results, Tryz.results263, go_sem, *]) rfl ?_
                  exact BoPost.no Hbad.out (by repeat (first | exact Ext.refl _ | assumption | refine Ext.alloc ?_ _ | refine Ext.drew ?_ | refine Ext.drewN ?_ _ | refine Ext.setCell ?_ (by first | (simp; done) | (simp; omega) | omega) _ | refine Ext.trans ?_ (by assumption)))
                · have T1 : decide (inAt (upX (ls.map lkRev) (tosL ch) (r + 1)) t < inAt (loX ls (frsL ch) (r + 1)) t) = false := decide_eq_false t1
                  have Hno := Lib.hid (show ¬ CrossI ls (ls.map lkRev) ch (r + 1) t from t1)
                  clear t1
                  go_wp2_with fail
                  (refine wp_region_onto prog_mixed (by kernel_rfl) ?_; (repeat (go_big_quiet_step ((fail)))); refine onto_end ?_; intro wq hxq)
                  go_wp2_with fail
                  have hxrq : Ext wr wq := (by repeat (first | exact Ext.refl _ | assumption | refine Ext.alloc ?_ _ | refine Ext.drew ?_ | refine Ext.drewN ?_ _ | refine Ext.setCell ?_ (by first | (simp; done) | (simp; omega) | omega) _ | refine Ext.trans ?_ (by assumption)))
                  go_roundg (ch.length - (t + 1))
                  case measure => have := Ht.out; omega
                  case rel => exact ⟨t + 1, by have := Ht.out; omega, by go_num, Hbo.out.more hxrq, Lib.hid (Hnx.out.step Hno.out)⟩
              · obtain rfl : t = ch.length := by have := Ht.out; omega
                cases b
                · go_wp2_with fail
                  refine bodyPost_ret (v := .tuple #[.slice A1 ch.length cu1, .slice A2 ch.length cu2, .bool true]) (by simp [results, Tryz.results263, go_sem, *]) rfl ?_
                  exact BoPost.yes Hlks.out Hrev.out Hal.out (Classical.byContradiction (fun hh => by cases Hbx2.out.2 hh)) (crossI_free Hnx.out) Hbo.out (fun h0 => by have := Hne.out h0; omega)
                · have Hn3 := Lib.hid (Hn2.out.succ (Hbx2.out.1 (by first | rfl | trivial)))
                  by_cases t1 : ch.length < r
                  · have T1 : decide ((ch.length : Int) < (r : Int)) = true := decide_eq_true (by omega)
                    have T2 : decide (ch.length < r) = true := decide_eq_true t1
                    have Hbad := Lib.hid (Hn3.out.bad Hlks.out Hrev.out Hal.out (by omega))
                    go_wp2_with fail
                    refine bodyPost_ret (v := .tuple #[.slice none 0 0, .slice none 0 0, .bool false]) (by simp [results, Tryz.results263, go_sem, *]) rfl ?_
                    exact BoPost.no Hbad.out (by repeat (first | exact Ext.refl _ | assumption | refine Ext.alloc ?_ _ | refine Ext.drew ?_ | refine Ext.drewN ?_ _ | refine Ext.setCell ?_ (by first | (simp; done) | (simp; omega) | omega) _ | refine Ext.trans ?_ (by assumption)))
                  · have T1 : decide ((ch.length : Int) < (r : Int)) = false := decide_eq_false (by omega)
                    have T2 : decide (ch.length < r) = false := decide_eq_false t1
                    have hrs : r + 1 ≤ ch.length + 1 := by omega
                    go_wp2_with fail
                    go_roundg (ch.length + 1 - (r + 1))
                    case measure => have := Hr.out; omega
                    case rel => exact ⟨r + 1, by omega, by go_num, Hbo.out, Hn3⟩
end Go.Proofs.YtfmnkojjkjkdeaaGreatDoor
