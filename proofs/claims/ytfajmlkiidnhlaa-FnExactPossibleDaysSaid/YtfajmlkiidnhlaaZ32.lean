/- Texts merged: a claim holds at most sixty files. -/
import Derived.Test.YtfajmlkiidnhlaaZ22
import Derived.Test.YtfajmlkiidnhlaaZ31
import Derived.Test.YtfajmlkiidnhlaaZ28
import Derived.Test.YtfajmlkiidnhlaaZ30
/- Contracts: HasSolution. -/
namespace Go.Proofs.Ytfajmlkiidnhlaa
set_option linter.unusedVariables false
set_option linter.unusedSimpArgs false
open Go.RowKit
attribute [local go_sem] cell_onto

noncomputable def hasV (n : Net) : Bool := bif B (codeE n true = 0) then B (Sol n) else false
theorem hasV_no {n : Net} (h : codeE n true ≠ 0) : hasV n = false := by unfold hasV; rw [B_false h]; rfl
theorem hasV_ok {n : Net} (h : codeE n true = 0) : hasV n = B (Sol n) := by unfold hasV; rw [B_true h]; rfl
theorem varsOk_nil (n : Net) : VarsOk n [] := fun i hi => absurd hi (by simp)
theorem few_of {n : Net} (h : choN 4096 n.sets ≤ 4096) : prodN n.sets ≤ 4096 := by
  have h1 : choN ((4096 : Nat) : Int) n.sets = (prodN n.sets : Int) := choN_exact (m := 4096) (l := n.sets) h
  have h2 : choN ((4096 : Nat) : Int) n.sets ≤ 4096 := h
  omega
theorem nilInts (w : World) : Ints w 0 w.heap.size (.slice none 0 0) [] := ⟨by simp [maxLen], none, 0, rfl, Nat.le_refl _, fun h => absurd h (by simp)⟩

set_option maxHeartbeats 1000000 in
theorem impl_HasSolution (s k : Value) (n : Net) (w : World) (h : NetIn w s k n) : Calls Try.prog 25 #[.agg #[s, k]] w (RetX (.tuple #[.bool (hasV n), .int .i64 (codeE n true)]) w) := by
  have H := Lib.hid h
  have Hv := Lib.hid (B_true (varsOk_nil n))
  clear h
  go_enter Try.func25, Try.ntmps25
  go_wp2_with fail
  refine Calls.mono (impl_checkChoices s k _ n [] _ (H.out.up (by repeat (first | exact Ext.refl _ | assumption | refine Ext.alloc ?_ _ | refine Ext.drew ?_ | refine Ext.drewN ?_ _ | refine Ext.setCell ?_ (by first | (simp; done) | (simp; omega) | omega) _ | refine Ext.trans ?_ (by assumption)))) (nilInts _)) ?_
  rintro e w1 ⟨rfl, hx1⟩
  rw [Hv.out]
  have hb := (Boxed.new w [s, k] 27).ext hx1; have hb0 := hb.at0; have hb1 := hb.at1; have hbg := hb.1; have Hhb := Lib.hid hb; clear hb
  have hx : Ext w w1 := (by repeat (first | exact Ext.refl _ | assumption | refine Ext.alloc ?_ _ | refine Ext.drew ?_ | refine Ext.drewN ?_ _ | refine Ext.setCell ?_ (by first | (simp; done) | (simp; omega) | omega) _ | refine Ext.trans ?_ (by assumption)))
  clear hx1
  by_cases hc : codeE n true = 0
  · have Hc := Lib.hid hc
    have Hz := Lib.hid (codeE_zero hc)
    have hd : (codeE n true != 0) = false := by rw [hc]; rfl
    clear hc
    go_wp2_with fail
    refine Calls.mono (impl_isSolvable s k n _ (H.out.up (by repeat (first | exact Ext.refl _ | assumption | refine Ext.alloc ?_ _ | refine Ext.drew ?_ | refine Ext.drewN ?_ _ | refine Ext.setCell ?_ (by first | (simp; done) | (simp; omega) | omega) _ | refine Ext.trans ?_ (by assumption)))) (NetFit.of Hz.out.1)) ?_
    rintro e w2 ⟨rfl, hx2⟩
    go_wp2_with fail
    go_ret2
    exact ⟨by rw [hasV_ok Hc.out, Hc.out]; rfl, (by repeat (first | exact Ext.refl _ | assumption | refine Ext.alloc ?_ _ | refine Ext.drew ?_ | refine Ext.drewN ?_ _ | refine Ext.setCell ?_ (by first | (simp; done) | (simp; omega) | omega) _ | refine Ext.trans ?_ (by assumption)))⟩
  · have Hc := Lib.hid hc
    have hd : (codeE n true != 0) = true := by simp [hc]
    clear hc
    go_wp2_with fail
    go_ret2
    exact ⟨by rw [hasV_no Hc.out]; rfl, (by repeat (first | exact Ext.refl _ | assumption | refine Ext.alloc ?_ _ | refine Ext.drew ?_ | refine Ext.drewN ?_ _ | refine Ext.setCell ?_ (by first | (simp; done) | (simp; omega) | omega) _ | refine Ext.trans ?_ (by assumption)))⟩
set_option maxHeartbeats 1000000 in
theorem spec_HasSolution (s k : Value) (n : Net) (w : World) (h : NetIn w s k n) : Calls Try.prog 26 #[.agg #[s, k]] w (RetX (.tuple #[.bool (hasV n), .int .i64 (codeE n true)]) w) := by
  have H := Lib.hid h
  clear h
  go_enter Try.func26, Try.ntmps26
  go_wp2_with fail
  refine Calls.mono (spec_l20Code s k n true _ (H.out.up (by repeat (first | exact Ext.refl _ | assumption | refine Ext.alloc ?_ _ | refine Ext.drew ?_ | refine Ext.drewN ?_ _ | refine Ext.setCell ?_ (by first | (simp; done) | (simp; omega) | omega) _ | refine Ext.trans ?_ (by assumption))))) ?_
  rintro e w1 ⟨rfl, hx1⟩
  have hb := (Boxed.new w [s, k] 27).ext hx1; have hb0 := hb.at0; have hb1 := hb.at1; have hbg := hb.1; have Hhb := Lib.hid hb; clear hb
  have hx : Ext w w1 := (by repeat (first | exact Ext.refl _ | assumption | refine Ext.alloc ?_ _ | refine Ext.drew ?_ | refine Ext.drewN ?_ _ | refine Ext.setCell ?_ (by first | (simp; done) | (simp; omega) | omega) _ | refine Ext.trans ?_ (by assumption)))
  clear hx1
  by_cases hc : codeE n true = 0
  · have Hc := Lib.hid hc
    have Hz := Lib.hid (codeE_zero hc)
    have hd : (codeE n true != 0) = false := by rw [hc]; rfl
    clear hc
    go_wp2_with fail
    refine Calls.mono (spec_l20Has s k n _ (H.out.up (by repeat (first | exact Ext.refl _ | assumption | refine Ext.alloc ?_ _ | refine Ext.drew ?_ | refine Ext.drewN ?_ _ | refine Ext.setCell ?_ (by first | (simp; done) | (simp; omega) | omega) _ | refine Ext.trans ?_ (by assumption)))) (NetFit.of Hz.out.1) (few_of Hz.out.2.2)) ?_
    rintro e w2 ⟨rfl, hx2⟩
    go_wp2_with fail
    go_ret2
    exact ⟨by rw [hasV_ok Hc.out, Hc.out]; rfl, (by repeat (first | exact Ext.refl _ | assumption | refine Ext.alloc ?_ _ | refine Ext.drew ?_ | refine Ext.drewN ?_ _ | refine Ext.setCell ?_ (by first | (simp; done) | (simp; omega) | omega) _ | refine Ext.trans ?_ (by assumption)))⟩
  · have Hc := Lib.hid hc
    have hd : (codeE n true != 0) = true := by simp [hc]
    clear hc
    go_wp2_with fail
    go_ret2
    exact ⟨by rw [hasV_no Hc.out]; rfl, (by repeat (first | exact Ext.refl _ | assumption | refine Ext.alloc ?_ _ | refine Ext.drew ?_ | refine Ext.drewN ?_ _ | refine Ext.setCell ?_ (by first | (simp; done) | (simp; omega) | omega) _ | refine Ext.trans ?_ (by assumption)))⟩
end Go.Proofs.Ytfajmlkiidnhlaa

/- Contracts: the program's possibleDays, PossibleDays. -/
namespace Go.Proofs.Ytfajmlkiidnhlaa
set_option linter.unusedVariables false
set_option linter.unusedSimpArgs false
open Go.RowKit
attribute [local go_sem] cell_onto

/-- 'make([][]T, n)': a new block of n nil slices -/
theorem wpList_make_nil {P : Program} (w : World) {ops : Array Oper} {rest : List Oper} {o : Oper} {a : Act} {Q : Exit → Act → World → Prop}
    (hg : o.guard = none) (l c : Operand) (t : TypeId) (hop : o.op = Op.makeSlice t l c) (e : TypeId) (bytes : Nat) (h1 : P.underlying t = some (.slice e))
    (h2 : (P.info? e).map (fun i => (i.zero, i.size, i.bytes)) = some (some (.slice none 0 0), 1, bytes)) (n : Nat) (hl : a.eval l = .int .i64 n) (hc : a.eval c = .int .i64 n)
    (hb : bytes * n ≤ 281474976710656) (hn : n ≤ maxLen)
    (hK : ∀ w', Ext w w' → Blk w' w.heap.size n (fun _ => .slice none 0 0) → wpList P ops Q rest (a.put o.dst (.slice (some ⟨w.heap.size, 0, none⟩) n n)) w') : wpList P ops Q (o :: rest) a w := by
  obtain ⟨i, hi, hzz⟩ := Option.map_eq_some_iff.1 h2
  simp only [Prod.mk.injEq] at hzz
  obtain ⟨hz, z2, z3⟩ := hzz
  have hb' : (i.bytes : Int) * (n : Int) ≤ 281474976710656 := by
    have h : ((i.bytes * n : Nat) : Int) ≤ 281474976710656 := by rw [z3]; omega
    rwa [Int.natCast_mul] at h
  have hn' : (n : Int) ≤ 9223372036854775807 := by unfold maxLen at hn; omega
  have hr := run_make (P := P) w t e i (.slice none 0 0) h1 hi hz .i64 .i64 n n (by omega) (by omega) hb' hn'
  simp only [Int.toNat_natCast] at hr
  refine wpList_plain hg fun K hK' => ?_
  unfold Oper.wp
  simp [execOp, hop, hl, hc, hr, Result.andThen]
  have hcells : (Value.slice none 0 0).cells = #[.slice none 0 0] := rfl
  rw [hcells]
  have hh : (w.alloc (.cells (madeCells #[.slice none 0 0] (n * i.size)) e)).heap[w.heap.size]? = some (.cells (madeCells #[.slice none 0 0] (n * i.size)) e) := by
    show (w.heap.push _)[w.heap.size]? = _
    simp
  refine hK' _ _ (hK _ ((Ext.refl w).alloc _) ⟨by simp, fun j hj => ⟨?_, ?_⟩⟩)
  · unfold World.cell?
    rw [hh]
    have hs : j < (madeCells #[Value.slice none 0 0] (n * i.size)).size := by rw [size_madeCells, z2]; omega
    have he : (madeCells #[Value.slice none 0 0] (n * i.size))[j]? = some (.slice none 0 0) := by
      rw [Array.getElem?_eq_getElem hs]
      simp [madeCells, Nat.mod_one]
    simpa using he
  · unfold World.frozen?
    rw [hh]
    simp
theorem PdSt.start {T g0 : Nat} {n : Net} {w w1 : World} (hg : w.heap.size ≤ g0) (hb : Blk w1 g0 n.sets.length (fun _ => .slice none 0 0)) (hn : n.sets.length ≤ 8) (T2 : TypeId) :
    PdSt T w.heap.size g0 w1.heap.size g0 n [] (fun k => 0 < n.sets.length ∧ Blks g0 n.sets.length (fun _ => .slice none 0 0) k) (w1.alloc (.cells #[.slice (some ⟨g0, 0, none⟩) n.sets.length n.sets.length] T2)) := by
  refine ⟨fun _ => .slice none 0 0, fun _ => Iff.rfl, hg, fun hh => ?_, Boxed.new w1 [_] T2, ?_, Nat.le_refl _, fun i _ => ?_, fun i _ g hg => by simp [Value.ownBlock] at hg, fun i j _ _ _ g hg => by simp [Value.ownBlock] at hg⟩
  · rcases hh.2 with e | ⟨i, _, e⟩
    · have := hb.1; omega
    · simp [Value.ownBlock] at e
  · exact (hb.ext ((Ext.refl _).alloc _)).own (by omega) (by unfold maxLen; omega) (Nat.le_refl _) (fun _ _ => rfl)
  · exact nil_row _ _ _ _
/-- the rows when j of them have been united -/
noncomputable def puRow (n : Net) (j i : Nat) : List Sp := if i < j then posL n i else imL n i (allCh n.sets [])
theorem puRow_succ (n : Net) (j i : Nat) : puRow n (j + 1) i = if i = j then posL n j else puRow n j i := by
  unfold puRow
  by_cases e : i = j
  · subst e; rw [if_pos (by omega), if_pos rfl]
  · rw [if_neg e]
    by_cases e2 : i < j
    · rw [if_pos (by omega), if_pos e2]
    · rw [if_neg (by omega), if_neg e2]
structure PuR (T : Nat) (n : Net) (w : World) (gO g0 j : Nat) (f1 : Nat → Value) (wr : World) : Prop where
  ext : Ext w wr
  box : Boxed wr gO [.slice (some ⟨g0, 0, none⟩) n.sets.length n.sets.length]
  tab : TabF T wr g0 g0 n.sets.length (.slice (some ⟨g0, 0, none⟩) n.sets.length n.sets.length) f1 (puRow n j)
theorem PuR.step {T b gO g0 j : Nat} {n : Net} {w wr w1 : World} {f1 : Nat → Value} {v' : Value} (h : PuR T n w gO g0 j f1 wr) (hg : w.heap.size ≤ g0) (hne : gO ≠ g0) (hi : j < n.sets.length) (hx : Ext wr w1) (hb : wr.heap.size ≤ b)
    (hr : w1.ownsRow b T 2 v' (posL n j).length (cellsOf ((posL n j).length * 2) (spanCell (posL n j)))) : PuR T n w gO g0 (j + 1) (fun t => if t = j then v' else f1 t) (w1.setCell ⟨g0, j, none⟩ v') := by
  have hg0 := h.tab.head.lt (show 0 < n.sets.length by omega)
  have h1 := h.tab.put hi hx hb (by omega) hr
  rw [Nat.zero_add] at h1
  exact ⟨(h.ext.trans hx).setCell (by show _ ≤ g0; omega) _, (h.box.ext hx).setOther (by show gO ≠ g0; exact hne) _, h1.congr (fun i _ => puRow_succ n j i)⟩
set_option maxRecDepth 100000 in
set_option maxHeartbeats 4000000 in
theorem impl_possibleDays (s k : Value) (n : Net) (w : World) (h : NetIn w s k n) (hok : NetOk n) (hfew : prodN n.sets ≤ 4096) : Calls Try.prog 161 #[.agg #[s, k]] w (NewSets (posSS n) w) := by
  obtain ⟨As, cs, rfl, _, _⟩ := h.1.len
  have H := Lib.hid h
  have Hok := Lib.hid hok
  have h8 := hok.1
  have hM : (allCh n.sets []).length ≤ 4096 := by rw [allCh_len]; exact hfew
  have HM := Lib.hid hM
  clear h hok hM hfew
  go_enter Try.func161, Try.ntmps161
  go_wp2_with (at_make; refine wpList_make_nil _ rfl _ _ 24 rfl 42 24 Try.underlying24 (by kernel_rfl) n.sets.length rfl rfl (by omega) (by unfold maxLen; omega) ?_; intro w1 hx1 hb1; simp only [World.size_alloc] at hb1; have bx := (Boxed.new w [.slice As n.sets.length cs, k] 27).ext hx1; have bx0 := bx.at0; have bx1 := bx.at1; have bxg := bx.1; clear bx; have Hb1 := Lib.hid hb1; have Hx1 := Lib.hid (((Ext.refl w).alloc (.cells #[.slice As n.sets.length cs, k] 27)).trans hx1); clear hb1 hx1)
  have Hst := Lib.hid (PdSt.start (T := 129) (w := w) (g0 := w.heap.size + 1) (n := n) (by omega) Hb1.out h8 24)
  have hgz := Hb1.out.1
  have Hx2 : Hid (Ext w (w1.alloc (.cells #[.slice (some ⟨w.heap.size + 1, 0, none⟩) n.sets.length n.sets.length] 24))) := Lib.hid (Hx1.out.alloc _)
  refine Calls.mono (impl_solutions (PdSt 129 w.heap.size (w.heap.size + 1) w1.heap.size (w.heap.size + 1) n) w.heap.size 209 _ _ k n _ _ (PdSt.cb _ _ _ _ _ _) Try.call209 (possibleDays_1 _ _ _ _ n HM.out h8) (NetFit.of Hok.out) (H.out.1.ext Hx2.out (Nat.le_refl _)) (H.out.2.ext Hx2.out (Nat.le_refl _)) Hx2.out.size Hst.out) ?_
  rintro e w3 ⟨K', rfl, hst, hoff, -⟩
  have hx3 : Ext w w3 := Hx2.out.off hoff (fun k hk hh => by
    rcases hh.2 with e | ⟨i, _, e⟩
    · omega
    · simp [Value.ownBlock] at e)
  obtain ⟨f, hK, -, hgo, hbo, htab⟩ := hst
  have bb0 := hbo.at0
  have bbg := hbo.1
  have hne : w1.heap.size ≠ w.heap.size + 1 := by omega
  have HP0 := Lib.hid (show PuR 129 n w w1.heap.size (w.heap.size + 1) 0 f w3 from ⟨hx3, hbo, htab.congr (fun i _ => rfl)⟩)
  clear hoff hK hgo hbo htab hx3 Hst Hx2 bx0 bx1 bxg Hb1 Hx1
  go_wp2_with fail
  go_loopg [15] n.sets.length (fun q i wr => ∃ (j : Nat) (f1 : Nat → Value), j + q = n.sets.length ∧ i = .int .i64 j ∧ Hid (PuR 129 n w w1.heap.size (w.heap.size + 1) j f1 wr))
  case atStart => exact ⟨0, f, by omega, rfl, HP0⟩
  clear bb0 bbg HP0
  case round =>
    obtain ⟨j, f1, hj, rfl, HP⟩ := hrel
    have bb0 := HP.out.box.at0
    have bbg := HP.out.box.1
    by_cases hlt : j < n.sets.length
    · have hN : 0 < n.sets.length := by omega
      obtain ⟨off0, e0, hg0, hhd⟩ := HP.out.tab.head.at_ hN
      injection e0 with e0
      injection e0 with _ e0
      subst e0
      obtain ⟨hc1, hc2⟩ := hhd j (by omega)
      rw [Nat.zero_add] at hc1 hc2
      have hpu : puRow n j j = imL n j (allCh n.sets []) := by unfold puRow; rw [if_neg (by omega)]
      have hrow := HP.out.tab.row hlt
      rw [hpu] at hrow
      obtain ⟨Aj, cj, ej, _, _⟩ := hrow.len
      rw [ej] at hc1 hrow
      have Hrow := Lib.hid hrow
      have hok := imL_ok Hok.out hlt (l := allCh n.sets []) (fun c hc => allCh_isCh hc)
      have Hft := Lib.hid (mem_fromTo hok).1
      have Hbd := Lib.hid (show ∀ i, i < (imL n j (allCh n.sets [])).length → SpBd' (spAt (imL n j (allCh n.sets [])) i) from fun i hi => by
        obtain ⟨_, ⟨a1, a2⟩, ⟨a3, a4⟩⟩ := hok _ (spAt_mem hi)
        unfold SpBd'
        omega)
      have Hll := Lib.hid (show (imL n j (allCh n.sets [])).length ≤ 1048576 from by
        have h1 : (imL n j (allCh n.sets [])).length = (okCh n.links (allCh n.sets [])).length := by unfold imL; simp
        have h2 : (okCh n.links (allCh n.sets [])).length ≤ (allCh n.sets []).length := List.length_filter_le _ _
        have := HM.out
        omega)
      have Hpl := Lib.hid (imL_pos Hok.out hlt)
      have hji : (j : Int) < (n.sets.length : Int) := by omega
      have hj0 : (0 : Int) ≤ (j : Int) := by omega
      generalize imL n j (allCh n.sets []) = L at *
      clear hhd hrow hok hpu ej
      go_wp2_with fail
      go_region_held3 (fun w' => w'.cell? ⟨w1.heap.size, 0, none⟩ = some (.slice (some ⟨w.heap.size + 1, 0, none⟩) n.sets.length n.sets.length))
        (first | exact ((HP.out.box.ext (show Ext wr w4 from (by repeat (first | exact Ext.refl _ | assumption | refine Ext.alloc ?_ _ | refine Ext.drew ?_ | refine Ext.drewN ?_ _ | refine Ext.setCell ?_ (by first | (simp; done) | (simp; omega) | omega) _ | refine Ext.trans ?_ (by assumption))))).setOther (p := ⟨w.heap.size + 1, j, none⟩) hne _).at0 | exact (HP.out.box.ext (by repeat (first | exact Ext.refl _ | assumption | refine Ext.alloc ?_ _ | refine Ext.drew ?_ | refine Ext.drewN ?_ _ | refine Ext.setCell ?_ (by first | (simp; done) | (simp; omega) | omega) _ | refine Ext.trans ?_ (by assumption)))).at0)
        (first | (go_simp; go_at_call 200; refine Calls.mono (impl_united _ L _ (Hrow.out.up (by repeat (first | exact Ext.refl _ | assumption | refine Ext.alloc ?_ _ | refine Ext.drew ?_ | refine Ext.drewN ?_ _ | refine Ext.setCell ?_ (by first | (simp; done) | (simp; omega) | omega) _ | refine Ext.trans ?_ (by assumption)))) Hll.out Hbd.out Hft.out) ?_; rintro e w4 ⟨v4, rfl, hx4, hr4⟩; obtain ⟨A4, c4, rfl⟩ := ownsRow_len hr4; have g40 := ((show Ext wr w4 from (by repeat (first | exact Ext.refl _ | assumption | refine Ext.alloc ?_ _ | refine Ext.drew ?_ | refine Ext.drewN ?_ _ | refine Ext.setCell ?_ (by first | (simp; done) | (simp; omega) | omega) _ | refine Ext.trans ?_ (by assumption)))).cell (p := ⟨w.heap.size + 1, j, none⟩) hg0).trans hc1; have g41 := ((show Ext wr w4 from (by repeat (first | exact Ext.refl _ | assumption | refine Ext.alloc ?_ _ | refine Ext.drew ?_ | refine Ext.drewN ?_ _ | refine Ext.setCell ?_ (by first | (simp; done) | (simp; omega) | omega) _ | refine Ext.trans ?_ (by assumption)))).frozen (p := ⟨w.heap.size + 1, j, none⟩) hg0).trans hc2; have Hst := Lib.hid (HP.out.step (by omega) hne hlt (show Ext wr w4 from (by repeat (first | exact Ext.refl _ | assumption | refine Ext.alloc ?_ _ | refine Ext.drew ?_ | refine Ext.drewN ?_ _ | refine Ext.setCell ?_ (by first | (simp; done) | (simp; omega) | omega) _ | refine Ext.trans ?_ (by assumption)))) (Ext.size (by repeat (first | exact Ext.refl _ | assumption | refine Ext.alloc ?_ _ | refine Ext.drew ?_ | refine Ext.drewN ?_ _ | refine Ext.setCell ?_ (by first | (simp; done) | (simp; omega) | omega) _ | refine Ext.trans ?_ (by assumption)))) (by rw [← Hpl.out]; exact hr4)); clear hr4))
      all_goals
        clear g40 g41 hc1 hc2 bb0 bbg
        go_wp2_with fail
        go_roundg (n.sets.length - (j + 1))
        case measure => omega
        case rel => exact ⟨j + 1, _, by omega, by go_num, Hst⟩
    · obtain rfl : j = n.sets.length := by omega
      have Hdone := Lib.hid (HP.out.tab.sets (l := posSS n) (posSS_len n) (fun i hi => by rw [posSS_at hi]; unfold puRow; rw [if_pos hi]))
      go_wp2_with fail
      go_ret
      refine ⟨_, rfl, HP.out.ext, ?_⟩
      obtain ⟨g0', f', g', d1, d2, d3, d4⟩ := Hdone.out
      exact ⟨g0', f', g', d1, fun h0 => ⟨by have := (d2 h0).1; omega, (d2 h0).2⟩, fun i hi => ⟨(d3 i hi).1, fun h0 => ⟨by have := ((d3 i hi).2 h0).1; omega, ((d3 i hi).2 h0).2⟩⟩, d4⟩
end Go.Proofs.Ytfajmlkiidnhlaa
