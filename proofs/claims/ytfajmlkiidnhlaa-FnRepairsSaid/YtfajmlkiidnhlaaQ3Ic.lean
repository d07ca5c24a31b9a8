/- Texts merged (a claim holds at most sixty files): Ic, Di, Sr. -/
import Derived.Test.YtfajmlkiidnhlaaQ3De
import Derived.Test.YtfajmlkiidnhlaaQ3Rq
import Derived.Deep.RegionLaw
import Derived.Test.YtfajmlkiidnhlaaQ3K
/- Contracts: IsConflict. -/
namespace Go.Proofs.Ytfajmlkiidnhlaa
set_option linter.unusedVariables false
set_option linter.unusedSimpArgs false
open Go.RowKit
attribute [local go_sem] cell_onto

theorem Ints.of_own {w : World} {g : Nat} {v : Value} {l : List Int} (h : Own w g 1 v l.length (intCell l)) : Ints w 0 w.heap.size v l := h.row (fun h0 => ⟨Nat.zero_le _, h.lt h0⟩)
def ConfTo (n : Net) (l : List Int) (j : Nat) : Prop := conB n l = true ∧ ∀ i, i < j → conB n (l.eraseIdx i) = false
theorem ConfTo.step {n : Net} {l : List Int} {j : Nat} (h : ConfTo n l j) (h2 : conB n (l.eraseIdx j) = false) : ConfTo n l (j + 1) :=
  ⟨h.1, fun i hi => by
    by_cases e : i = j
    · subst e; exact h2
    · exact h.2 i (by omega)⟩
theorem stm_len {n : Net} {l : List Int} (h : NetOk n) (h2 : StmOk n l) : l.length ≤ 1048576 := by
  have h3 : ∀ i, i < l.length → (i : Int) ≤ inAt l i := by
    intro i
    induction i with
    | zero => intro hi; have := (h2 0 hi).1.1; omega
    | succ i ih =>
      intro hi
      have h4 := ih (by omega)
      have h5 := (h2 (i + 1) hi).2 (by omega)
      simp at h5
      omega
  rcases Nat.eq_zero_or_pos l.length with e | e
  · omega
  · have h4 := h3 (l.length - 1) (by omega)
    have h5 := (h2 (l.length - 1) (by omega)).1.2
    have h6 := h.1
    have h7 := h.2.1
    omega

end Go.Proofs.Ytfajmlkiidnhlaa

/- Contracts: DisputedStatements. -/
namespace Go.Proofs.Ytfajmlkiidnhlaa
set_option linter.unusedVariables false
set_option linter.unusedSimpArgs false
open Go.RowKit
attribute [local go_sem] cell_onto

theorem boxInts (w : World) (o : Obj) (x : Int) (T : TypeId) : Ints ((w.alloc o).alloc (.cells #[.int .i64 x] T)) 0 ((w.alloc o).alloc (.cells #[.int .i64 x] T)).heap.size (.slice (some ⟨w.heap.size + 1, 0, none⟩) 1 1) [x] := by
  have := (Boxed.new (w.alloc o) [.int .i64 x] T).row (sz := 1) (f := intCell [x]) rfl (int_cells x)
  rwa [show (w.alloc o).heap.size = w.heap.size + 1 from World.size_alloc _ _] at this
theorem boxInts0 (w : World) (x : Int) (T : TypeId) : Ints (w.alloc (.cells #[.int .i64 x] T)) 0 (w.alloc (.cells #[.int .i64 x] T)).heap.size (.slice (some ⟨w.heap.size, 0, none⟩) 1 1) [x] :=
  (Boxed.new w [.int .i64 x] T).row (sz := 1) (f := intCell [x]) rfl (int_cells x)
theorem NewInts2.of_row {w w' : World} {b T : Nat} {v : Value} {l : List Int} (c : Int) (hx : Ext w w') (h : w'.ownsRow b T 1 v l.length (cellsOf (l.length * 1) (intCell l))) (hb : w.heap.size ≤ b) : NewInts2 l c w (.returned (.tuple #[v, .int .i64 c])) w' := by
  obtain ⟨g, hg, ho⟩ := Own.of_owned h
  exact ⟨v, g, rfl, hx, fun h0 => by have := (hg h0).2; omega, ho⟩
theorem emptyRow (w : World) (o : Obj) (T : TypeId) : ((w.alloc o).alloc (.cells #[] T)).ownsRow (w.heap.size + 1) T 1 (.slice (some ⟨w.heap.size + 1, 0, none⟩) 0 0) 0 (cellsOf (0 * 1) (intCell [])) := by
  have := World.ownsRow_made (base := w.heap.size + 1) (e := T) (size := 1) (w.alloc o) #[] 0 (by simp) (Nat.zero_le _) rfl
  simpa [cellsOf] using this

end Go.Proofs.Ytfajmlkiidnhlaa

/- Contracts: SmallestRepair. -/
namespace Go.Proofs.Ytfajmlkiidnhlaa
set_option linter.unusedVariables false
set_option linter.unusedSimpArgs false
open Go.RowKit
attribute [local go_sem] cell_onto

theorem ints2r (w : World) (a b : Int) (T : TypeId) : Ints (w.alloc (.cells #[.int .i64 a, .int .i64 b] T)) 0 (w.alloc (.cells #[.int .i64 a, .int .i64 b] T)).heap.size (.slice (some ⟨w.heap.size, 0, none⟩) 2 2) [a, b] :=
  have h := Boxed.new w [.int .i64 a, .int .i64 b] T
  ⟨by simp [maxLen], _, 2, rfl, Nat.le_refl _, fun _ => ⟨w.heap.size, 0, rfl, Nat.zero_le _, h.1, fun i hi => by
    rw [Nat.zero_add]
    have hi' : i < 2 := by simpa using hi
    match i, hi' with
    | 0, _ => exact (h.2 0 _ rfl).1
    | 1, _ => exact (h.2 1 _ rfl).1⟩⟩
theorem own1 {w w' : World} {x : Int} {T : TypeId} (hx : Ext (w.alloc (.cells #[.int .i64 x] T)) w') : Own w' w.heap.size 1 (.slice (some ⟨w.heap.size, 0, none⟩) 1 1) 1 (intCell [x]) := by
  have h := (Boxed.new w [.int .i64 x] T).ext hx
  exact ⟨by simp [maxLen], _, 1, rfl, Nat.le_refl _, fun _ => ⟨h.1, 0, rfl, fun i hi => by
    obtain rfl : i = 0 := by omega
    exact h.2 0 _ rfl⟩⟩
theorem own2 {w w' : World} {x y : Int} {T : TypeId} (hx : Ext (w.alloc (.cells #[.int .i64 x, .int .i64 y] T)) w') : Own w' w.heap.size 1 (.slice (some ⟨w.heap.size, 0, none⟩) 2 2) 2 (intCell [x, y]) := by
  have h := (Boxed.new w [.int .i64 x, .int .i64 y] T).ext hx
  exact ⟨by simp [maxLen], _, 2, rfl, by omega, fun _ => ⟨h.1, 0, rfl, fun i hi => by
    have hi' : i < 2 := by omega
    match i, hi' with
    | 0, _ => exact h.2 0 _ rfl
    | 1, _ => exact h.2 1 _ rfl⟩⟩
theorem rep1_iff (n : Net) (s : Nat) : repB n [(s : Int)] = B (Rep1 n s) := B_eq Iff.rfl
theorem rep2_iff (n : Net) (s t : Nat) : repB n [(s : Int), (t : Int)] = B (Rep2 n s t) := B_eq Iff.rfl
def No1 (n : Net) (j : Nat) : Prop := ∀ k, k < j → ¬ Rep1 n k
theorem No1.step {n : Net} {j : Nat} (h : No1 n j) (h2 : ¬ Rep1 n j) : No1 n (j + 1) := fun k hk => by
  by_cases e : k = j
  · subst e; exact h2
  · exact h k (by omega)
def NoP (n : Net) (j : Nat) : Prop := ∀ k, k < j → ¬ RepP n k
theorem NoP.step {n : Net} {j : Nat} (h : NoP n j) (h2 : ¬ RepP n j) : NoP n (j + 1) := fun k hk => by
  by_cases e : k = j
  · subst e; exact h2
  · exact h k (by omega)
def No2 (n : Net) (s t : Nat) : Prop := ∀ k, s < k → k < t → ¬ Rep2 n s k
theorem No2.step {n : Net} {s t : Nat} (h : No2 n s t) (h2 : ¬ Rep2 n s t) : No2 n s (t + 1) := fun k hk hk2 => by
  by_cases e : k = t
  · subst e; exact h2
  · exact h k hk (by omega)
theorem No2.all {n : Net} {s : Nat} (h : No2 n s (allS n)) : ¬ RepP n s := fun ⟨t, h1, h2, h3⟩ => h t h1 h2 h3

set_option maxHeartbeats 8000000 in
theorem impl_SmallestRepair (s k : Value) (n : Net) (w : World) (h : NetIn w s k n) : Calls Try.prog 33 #[.agg #[s, k]] w (NewInts2 (smL n) (smE n) w) := by
  have H := Lib.hid h
  clear h
  go_enter Try.func33, Try.ntmps33
  go_wp2_with fail
  refine Calls.mono (impl_checkBlame s k _ n [] _ (H.out.up (by repeat (first | exact Ext.refl _ | assumption | refine Ext.alloc ?_ _ | refine Ext.drew ?_ | refine Ext.drewN ?_ _ | refine Ext.setCell ?_ (by first | (simp; done) | (simp; omega) | omega) _ | refine Ext.trans ?_ (by assumption)))) (nilInts _)) ?_
  rintro e w1 ⟨rfl, hx1⟩
  have hb := (Boxed.new w [s, k] 27).ext hx1; have hb0 := hb.at0; have hb1 := hb.at1; have hbg := hb.1; have Hhb := Lib.hid hb; clear hb
  have hx : Ext w w1 := (by repeat (first | exact Ext.refl _ | assumption | refine Ext.alloc ?_ _ | refine Ext.drew ?_ | refine Ext.drewN ?_ _ | refine Ext.setCell ?_ (by first | (simp; done) | (simp; omega) | omega) _ | refine Ext.trans ?_ (by assumption)))
  have Hb1 : Hid (Boxed w1 w.heap.size [s, k]) := Lib.hid Hhb.out
  clear hx1
  by_cases hc : blE n [] = 0
  · have Hc := Lib.hid hc
    have Hok := Lib.hid (blE_zero hc).1
    have h8 := (blE_zero hc).1.1
    have h20 := (blE_zero hc).1.2.1
    have hd : (blE n [] != 0) = false := by rw [hc]; rfl
    obtain ⟨N, hN⟩ : ∃ N, N = allS n := ⟨_, rfl⟩
    have HN := Lib.hid hN
    have hN28 : N ≤ 28 := by rw [hN]; unfold allS; omega
    clear hc hN
    go_wp2_with fail
    refine Calls.mono (impl_isSolvable s k n _ (H.out.up (by repeat (first | exact Ext.refl _ | assumption | refine Ext.alloc ?_ _ | refine Ext.drew ?_ | refine Ext.drewN ?_ _ | refine Ext.setCell ?_ (by first | (simp; done) | (simp; omega) | omega) _ | refine Ext.trans ?_ (by assumption)))) (NetFit.of Hok.out)) ?_
    rintro e w2 ⟨rfl, hx2⟩
    have hxw2 : Ext w w2 := (by repeat (first | exact Ext.refl _ | assumption | refine Ext.alloc ?_ _ | refine Ext.drew ?_ | refine Ext.drewN ?_ _ | refine Ext.setCell ?_ (by first | (simp; done) | (simp; omega) | omega) _ | refine Ext.trans ?_ (by assumption)))
    have Hb2 := Lib.hid (Hb1.out.ext hx2)
    clear hb0 hb1 hbg Hhb Hb1 hx2
    have hb := Hb2.out; have hb0 := hb.at0; have hb1 := hb.at1; have hbg := hb.1; have Hhb := Lib.hid hb; clear hb
    by_cases hs : Sol n
    · have Hv := Lib.hid (sm_sol Hc.out hs)
      rw [B_true hs]
      clear hs
      go_wp2_with fail
      go_ret2
      rw [Hv.out.1, Hv.out.2]
      exact NewInts2.nil 0 (by repeat (first | exact Ext.refl _ | assumption | refine Ext.alloc ?_ _ | refine Ext.drew ?_ | refine Ext.drewN ?_ _ | refine Ext.setCell ?_ (by first | (simp; done) | (simp; omega) | omega) _ | refine Ext.trans ?_ (by assumption)))
    · have Hs := Lib.hid hs
      rw [B_false hs]
      clear hs
      go_wp2_with fail
      refine Calls.mono (impl_statementsOf s k n _ (H.out.up (by repeat (first | exact Ext.refl _ | assumption | refine Ext.alloc ?_ _ | refine Ext.drew ?_ | refine Ext.drewN ?_ _ | refine Ext.setCell ?_ (by first | (simp; done) | (simp; omega) | omega) _ | refine Ext.trans ?_ (by assumption)))) ⟨by omega, by omega⟩) ?_
      rintro e w3 ⟨rfl, hx3⟩
      have e1 : (n.sets.length : Int) + n.links.length = (N : Int) := by rw [HN.out]; unfold allS; omega
      rw [e1]
      have Hb3 := Lib.hid (Hb2.out.ext hx3)
      have hxw3 : Ext w w3 := (by repeat (first | exact Ext.refl _ | assumption | refine Ext.alloc ?_ _ | refine Ext.drew ?_ | refine Ext.drewN ?_ _ | refine Ext.setCell ?_ (by first | (simp; done) | (simp; omega) | omega) _ | refine Ext.trans ?_ (by assumption)))
      clear hb0 hb1 hbg Hhb Hb2 hx3
      have hb := Hb3.out; have hb0 := hb.at0; have hb1 := hb.at1; have hbg := hb.1; have Hhb := Lib.hid hb; clear hb
      go_wp2_with fail
      go_loopg [6, 19] N (fun q u6 i wr => ∃ j : Nat, j + q = N ∧ i = .int .i64 j ∧ Ext w wr ∧ Boxed wr w.heap.size [s, k] ∧ Hid (No1 n j))
      case atStart => exact ⟨0, by omega, rfl, (by repeat (first | exact Ext.refl _ | assumption | refine Ext.alloc ?_ _ | refine Ext.drew ?_ | refine Ext.drewN ?_ _ | refine Ext.setCell ?_ (by first | (simp; done) | (simp; omega) | omega) _ | refine Ext.trans ?_ (by assumption))), Hb3.out, Lib.hid (fun i hi => absurd hi (by omega))⟩
      clear hb0 hb1 hbg Hhb
      case round =>
        obtain ⟨j, hj, rfl, hxr, hnb, Hno⟩ := hrel
        have nb := hnb; have nb0 := nb.at0; have nb1 := nb.at1; have nbg := nb.1; have Hnb := Lib.hid nb; clear nb
        clear hnb
        by_cases hlt : j < N
        · have T1 : decide ((j : Int) < (N : Int)) = true := decide_eq_true (by omega)
          have T2 : decide (j < N) = true := decide_eq_true hlt
          go_wp2_with fail
          refine Calls.mono (impl_repairs s k _ n [(j : Int)] _ (H.out.up (by repeat (first | exact Ext.refl _ | assumption | refine Ext.alloc ?_ _ | refine Ext.drew ?_ | refine Ext.drewN ?_ _ | refine Ext.setCell ?_ (by first | (simp; done) | (simp; omega) | omega) _ | refine Ext.trans ?_ (by assumption)))) (boxInts0 wr j 2) Hok.out) ?_
          rintro e w4 ⟨rfl, hx4⟩
          have hxw4 : Ext w w4 := (by repeat (first | exact Ext.refl _ | assumption | refine Ext.alloc ?_ _ | refine Ext.drew ?_ | refine Ext.drewN ?_ _ | refine Ext.setCell ?_ (by first | (simp; done) | (simp; omega) | omega) _ | refine Ext.trans ?_ (by assumption)))
          have Hb4 := Lib.hid (Hnb.out.ext (((Ext.refl wr).alloc _).trans hx4))
          clear nb0 nb1 nbg Hnb hx4
          have Hre := Lib.hid (rep1_iff n j)
          rw [Hre.out]
          by_cases hr : Rep1 n j
          · have Hv := Lib.hid (sm_one Hc.out Hs.out (by rw [← HN.out]; exact hlt) hr Hno.out)
            have hz4 := hxw4.size
            rw [B_true hr]
            clear hr
            go_wp2_with fail
            go_ret2
            rw [Hv.out.1, Hv.out.2]
            exact ⟨_, w4.heap.size, rfl, (by repeat (first | exact Ext.refl _ | assumption | refine Ext.alloc ?_ _ | refine Ext.drew ?_ | refine Ext.drewN ?_ _ | refine Ext.setCell ?_ (by first | (simp; done) | (simp; omega) | omega) _ | refine Ext.trans ?_ (by assumption))), fun _ => hz4, own1 (by repeat (first | exact Ext.refl _ | assumption | refine Ext.alloc ?_ _ | refine Ext.drew ?_ | refine Ext.drewN ?_ _ | refine Ext.setCell ?_ (by first | (simp; done) | (simp; omega) | omega) _ | refine Ext.trans ?_ (by assumption)))⟩
          · have Hr := Lib.hid hr
            rw [B_false hr]
            clear hr
            go_wp2_with fail
            go_roundg (N - (j + 1))
            case measure => omega
            case rel => exact ⟨j + 1, by omega, by go_num, (by repeat (first | exact Ext.refl _ | assumption | refine Ext.alloc ?_ _ | refine Ext.drew ?_ | refine Ext.drewN ?_ _ | refine Ext.setCell ?_ (by first | (simp; done) | (simp; omega) | omega) _ | refine Ext.trans ?_ (by assumption))), Hb4.out, Lib.hid (Hno.out.step Hr.out)⟩
        · obtain rfl : j = N := by omega
          have T1 : decide ((j : Int) < (j : Int)) = false := decide_eq_false (by omega)
          have H1 := Lib.hid (show ∀ k, k < allS n → ¬ Rep1 n k from by rw [← HN.out]; exact Hno.out)
          have Hb4 : Hid (Boxed wr w.heap.size [s, k]) := Lib.hid Hnb.out
          clear nb0 nb1 nbg Hnb Hno
          go_wp2_with fail
          go_loopg [7, 8, 30] j (fun q u7 u8 i wr => ∃ t : Nat, t + q = j ∧ i = .int .i64 t ∧ Ext w wr ∧ Boxed wr w.heap.size [s, k] ∧ Hid (NoP n t))
          case atStart => exact ⟨0, by omega, rfl, (by repeat (first | exact Ext.refl _ | assumption | refine Ext.alloc ?_ _ | refine Ext.drew ?_ | refine Ext.drewN ?_ _ | refine Ext.setCell ?_ (by first | (simp; done) | (simp; omega) | omega) _ | refine Ext.trans ?_ (by assumption))), Hb4.out, Lib.hid (fun i hi => absurd hi (by omega))⟩
          clear Hb4 hxr
          case round =>
            obtain ⟨t, ht, rfl, hxr, hnb, Hno⟩ := hrel
            by_cases hlt : t < j
            · have T3 : decide ((t : Int) < (j : Int)) = true := decide_eq_true (by omega)
              have T4 : decide (t < j) = true := decide_eq_true hlt
              have Hnb := Lib.hid hnb
              clear hnb
              go_wp2_with fail
              go_loopg [8] (j - (t + 1)) (fun q i wr => ∃ m : Nat, m + q = j ∧ t + 1 ≤ m ∧ i = .int .i64 m ∧ Ext w wr ∧ Boxed wr w.heap.size [s, k] ∧ Hid (No2 n t m))
              case atStart => exact ⟨t + 1, by omega, by omega, by go_num, (by repeat (first | exact Ext.refl _ | assumption | refine Ext.alloc ?_ _ | refine Ext.drew ?_ | refine Ext.drewN ?_ _ | refine Ext.setCell ?_ (by first | (simp; done) | (simp; omega) | omega) _ | refine Ext.trans ?_ (by assumption))), Hnb.out, Lib.hid (fun i hi hi2 => absurd hi2 (by omega))⟩
              clear Hnb hxr
              case round =>
                obtain ⟨m, hm, htm, rfl, hxr, hnb, Hn2⟩ := hrel
                have nb := hnb; have nb0 := nb.at0; have nb1 := nb.at1; have nbg := nb.1; have Hnb := Lib.hid nb; clear nb
                clear hnb
                by_cases hlm : m < j
                · have T5 : decide ((m : Int) < (j : Int)) = true := decide_eq_true (by omega)
                  have T6 : decide (m < j) = true := decide_eq_true hlm
                  go_wp2_with fail
                  refine Calls.mono (impl_repairs s k _ n [(t : Int), (m : Int)] _ (H.out.up (by repeat (first | exact Ext.refl _ | assumption | refine Ext.alloc ?_ _ | refine Ext.drew ?_ | refine Ext.drewN ?_ _ | refine Ext.setCell ?_ (by first | (simp; done) | (simp; omega) | omega) _ | refine Ext.trans ?_ (by assumption)))) (ints2r wr t m 2) Hok.out) ?_
                  rintro e w4 ⟨rfl, hx4⟩
                  have hxw4 : Ext w w4 := (by repeat (first | exact Ext.refl _ | assumption | refine Ext.alloc ?_ _ | refine Ext.drew ?_ | refine Ext.drewN ?_ _ | refine Ext.setCell ?_ (by first | (simp; done) | (simp; omega) | omega) _ | refine Ext.trans ?_ (by assumption)))
                  have Hb4 := Lib.hid (Hnb.out.ext (((Ext.refl wr).alloc _).trans hx4))
                  clear nb0 nb1 nbg Hnb hx4
                  have Hre := Lib.hid (rep2_iff n t m)
                  rw [Hre.out]
                  by_cases hr : Rep2 n t m
                  · have Hv := Lib.hid (sm_two Hc.out Hs.out H1.out (by omega) (by rw [← HN.out]; exact hlm) hr Hno.out Hn2.out)
                    have hz4 := hxw4.size
                    rw [B_true hr]
                    clear hr
                    go_wp2_with fail
                    go_ret2
                    rw [Hv.out.1, Hv.out.2]
                    exact ⟨_, w4.heap.size, rfl, (by repeat (first | exact Ext.refl _ | assumption | refine Ext.alloc ?_ _ | refine Ext.drew ?_ | refine Ext.drewN ?_ _ | refine Ext.setCell ?_ (by first | (simp; done) | (simp; omega) | omega) _ | refine Ext.trans ?_ (by assumption))), fun _ => hz4, own2 (by repeat (first | exact Ext.refl _ | assumption | refine Ext.alloc ?_ _ | refine Ext.drew ?_ | refine Ext.drewN ?_ _ | refine Ext.setCell ?_ (by first | (simp; done) | (simp; omega) | omega) _ | refine Ext.trans ?_ (by assumption)))⟩
                  · have Hr := Lib.hid hr
                    rw [B_false hr]
                    clear hr
                    go_wp2_with fail
                    go_roundg (j - (m + 1))
                    case measure => omega
                    case rel => exact ⟨m + 1, by omega, by omega, by go_num, (by repeat (first | exact Ext.refl _ | assumption | refine Ext.alloc ?_ _ | refine Ext.drew ?_ | refine Ext.drewN ?_ _ | refine Ext.setCell ?_ (by first | (simp; done) | (simp; omega) | omega) _ | refine Ext.trans ?_ (by assumption))), Hb4.out, Lib.hid (Hn2.out.step Hr.out)⟩
                · obtain rfl : m = j := by omega
                  have T5 : decide ((m : Int) < (m : Int)) = false := decide_eq_false (by omega)
                  have Hp := Lib.hid (show ¬ RepP n t from No2.all (by rw [← HN.out]; exact Hn2.out))
                  go_wp2_with fail
                  go_roundg (m - (t + 1))
                  case measure => omega
                  case rel => exact ⟨t + 1, by omega, by go_num, (by repeat (first | exact Ext.refl _ | assumption | refine Ext.alloc ?_ _ | refine Ext.drew ?_ | refine Ext.drewN ?_ _ | refine Ext.setCell ?_ (by first | (simp; done) | (simp; omega) | omega) _ | refine Ext.trans ?_ (by assumption))), Hnb.out, Lib.hid (Hno.out.step Hp.out)⟩
            · obtain rfl : t = j := by omega
              have T3 : decide ((t : Int) < (t : Int)) = false := decide_eq_false (by omega)
              have Hv := Lib.hid (sm_none Hc.out Hs.out H1.out (by rw [← HN.out]; exact Hno.out))
              go_wp2_with fail
              go_ret2
              rw [Hv.out.1, Hv.out.2]
              exact NewInts2.nil 4 (by repeat (first | exact Ext.refl _ | assumption | refine Ext.alloc ?_ _ | refine Ext.drew ?_ | refine Ext.drewN ?_ _ | refine Ext.setCell ?_ (by first | (simp; done) | (simp; omega) | omega) _ | refine Ext.trans ?_ (by assumption)))
  · have Hc := Lib.hid (sm_code hc)
    have hd : (blE n [] != 0) = true := by simp [hc]
    clear hc
    go_wp2_with fail
    go_ret2
    rw [Hc.out.1, Hc.out.2]
    exact NewInts2.nil _ (by repeat (first | exact Ext.refl _ | assumption | refine Ext.alloc ?_ _ | refine Ext.drew ?_ | refine Ext.drewN ?_ _ | refine Ext.setCell ?_ (by first | (simp; done) | (simp; omega) | omega) _ | refine Ext.trans ?_ (by assumption)))
end Go.Proofs.Ytfajmlkiidnhlaa
