/- Texts merged (a claim holds at most sixty files): Pk, Pn. -/
import Derived.Test.YtfajmlkiidnhlaaGreatQ5Pi
import Derived.Test.YtfajmlkiidnhlaaGreatQ3Pe
import Derived.Test.YtfajmlkiidnhlaaGreatQ3Ha
import Derived.Test.YtfajmlkiidnhlaaGreatQ3Nx
import Derived.Test.YtfajmlkiidnhlaaGreatQ3K
import Derived.Deep.RegionHeld3
/- Contracts: the program's possibleDays, PossibleDays. -/
namespace Go.Proofs.YtfajmlkiidnhlaaGreat
set_option linter.unusedVariables false
set_option linter.unusedSimpArgs false
open Go.RowKit
attribute [local go_sem] cell_onto

/-- 'make([][]T, n)': a new block of n nil slices -/
theorem wpList_make_nil {P : Program} (w : World) {ops : Array Oper} {rest : List Oper} {o : Oper} {a : Act} {Q : Exit → Act → World → Prop}
    (hg : o.guard = none) (l c : Operand) (t : TypeId) (hop : o.op = Op.makeSlice t l c) (e : TypeId) (bytes : Nat) (h1 : P.underlying t = some (.slice e))
    (h2 : (P.info? e).map (fun i => (i.zero, i.size, i.bytes)) = some (some (.slice none 0 0), 1, bytes)) (n : Nat) (hl : a.eval l = .int .i64 n) (hc : a.eval c = .int .i64 n)
    (hb : bytes * n ≤ 281474976710656) (hn : n ≤ maxLen)
    (hK : ∀ w', Ext w w' → Blk w' w.heap.size n (fun _ => .slice none 0 0) → wpList P ops Q rest (a.put o.dst (.slice (some ⟨w.heap.size, 0, none⟩) n n)) w') : wpList P ops Q (o :: rest) a w := by
  obtain ⟨i, hi, hzz⟩ := Option.map_eq_some_iff.1 h2
  simp only [Prod.mk.injEq] at hzz
  obtain ⟨hz, z2, z3⟩ := hzz
  have hb' : (i.bytes : Int) * (n : Int) ≤ 281474976710656 := by
    have h : ((i.bytes * n : Nat) : Int) ≤ 281474976710656 := by rw [z3]; omega
    rwa [Int.natCast_mul] at h
  have hn' : (n : Int) ≤ 9223372036854775807 := by unfold maxLen at hn; omega
  have hr := run_make (P := P) w t e i (.slice none 0 0) h1 hi hz .i64 .i64 n n (by omega) (by omega) hb' hn'
  simp only [Int.toNat_natCast] at hr
  refine wpList_plain hg fun K hK' => ?_
  unfold Oper.wp
  simp [execOp, hop, hl, hc, hr, Result.andThen]
  have hcells : (Value.slice none 0 0).cells = #[.slice none 0 0] := rfl
  rw [hcells]
  have hh : (w.alloc (.cells (madeCells #[.slice none 0 0] (n * i.size)) e)).heap[w.heap.size]? = some (.cells (madeCells #[.slice none 0 0] (n * i.size)) e) := by
    show (w.heap.push _)[w.heap.size]? = _
    simp
  refine hK' _ _ (hK _ ((Ext.refl w).alloc _) ⟨by simp, fun j hj => ⟨?_, ?_⟩⟩)
  · unfold World.cell?
    rw [hh]
    have hs : j < (madeCells #[Value.slice none 0 0] (n * i.size)).size := by rw [size_madeCells, z2]; omega
    have he : (madeCells #[Value.slice none 0 0] (n * i.size))[j]? = some (.slice none 0 0) := by
      rw [Array.getElem?_eq_getElem hs]
      simp [madeCells, Nat.mod_one]
    simpa using he
  · unfold World.frozen?
    rw [hh]
    simp
theorem PdSt.start {T g0 : Nat} {n : Net} {w w1 : World} (hg : w.heap.size ≤ g0) (hb : Blk w1 g0 n.sets.length (fun _ => .slice none 0 0)) (hn : n.sets.length ≤ 8) (T2 : TypeId) :
    PdSt T w.heap.size g0 w1.heap.size g0 n [] (fun k => 0 < n.sets.length ∧ Blks g0 n.sets.length (fun _ => .slice none 0 0) k) (w1.alloc (.cells #[.slice (some ⟨g0, 0, none⟩) n.sets.length n.sets.length] T2)) := by
  refine ⟨fun _ => .slice none 0 0, fun _ => Iff.rfl, hg, fun hh => ?_, Boxed.new w1 [_] T2, ?_, Nat.le_refl _, fun i _ => ?_, fun i _ g hg => by simp [Value.ownBlock] at hg, fun i j _ _ _ g hg => by simp [Value.ownBlock] at hg⟩
  · rcases hh.2 with e | ⟨i, _, e⟩
    · have := hb.1; omega
    · simp [Value.ownBlock] at e
  · exact (hb.ext ((Ext.refl _).alloc _)).own (by omega) (by unfold maxLen; omega) (Nat.le_refl _) (fun _ _ => rfl)
  · exact nil_row _ _ _ _
/-- the rows when j of them have been united -/
noncomputable def puRow (n : Net) (j i : Nat) : List Sp := if i < j then posL n i else imL n i (allCh n.sets [])
theorem puRow_succ (n : Net) (j i : Nat) : puRow n (j + 1) i = if i = j then posL n j else puRow n j i := by
  unfold puRow
  by_cases e : i = j
  · subst e; rw [if_pos (by omega), if_pos rfl]
  · rw [if_neg e]
    by_cases e2 : i < j
    · rw [if_pos (by omega), if_pos e2]
    · rw [if_neg (by omega), if_neg e2]
structure PuR (T : Nat) (n : Net) (w : World) (gO g0 j : Nat) (f1 : Nat → Value) (wr : World) : Prop where
  ext : Ext w wr
  box : Boxed wr gO [.slice (some ⟨g0, 0, none⟩) n.sets.length n.sets.length]
  tab : TabF T wr g0 g0 n.sets.length (.slice (some ⟨g0, 0, none⟩) n.sets.length n.sets.length) f1 (puRow n j)
theorem PuR.step {T b gO g0 j : Nat} {n : Net} {w wr w1 : World} {f1 : Nat → Value} {v' : Value} (h : PuR T n w gO g0 j f1 wr) (hg : w.heap.size ≤ g0) (hne : gO ≠ g0) (hi : j < n.sets.length) (hx : Ext wr w1) (hb : wr.heap.size ≤ b)
    (hr : w1.ownsRow b T 2 v' (posL n j).length (cellsOf ((posL n j).length * 2) (spanCell (posL n j)))) : PuR T n w gO g0 (j + 1) (fun t => if t = j then v' else f1 t) (w1.setCell ⟨g0, j, none⟩ v') := by
  have hg0 := h.tab.head.lt (show 0 < n.sets.length by omega)
  have h1 := h.tab.put hi hx hb (by omega) hr
  rw [Nat.zero_add] at h1
  exact ⟨(h.ext.trans hx).setCell (by show _ ≤ g0; omega) _, (h.box.ext hx).setOther (by show gO ≠ g0; exact hne) _, h1.congr (fun i _ => puRow_succ n j i)⟩
set_option maxRecDepth 100000 in
set_option maxHeartbeats 4000000 in
theorem impl_possibleDays (s k : Value) (n : Net) (w : World) (h : NetIn w s k n) (hok : NetOk n) (hfew : prodN n.sets ≤ 4096) : Calls Tryz.prog 72 #[.agg #[s, k]] w (NewSets (posSS n) w) := by
  obtain ⟨As, cs, rfl, _, _⟩ := h.1.len
  have H := Lib.hid h
  have Hok := Lib.hid hok
  have h8 := hok.1
  have hM : (allCh n.sets []).length ≤ 4096 := by rw [allCh_len]; exact hfew
  have HM := Lib.hid hM
  clear h hok hM hfew
  go_enter Tryz.func72, Tryz.ntmps72
  go_wp2_with (at_make; refine wpList_make_nil _ rfl _ _ 24 rfl 41 24 Tryz.underlying24 (by kernel_rfl) n.sets.length rfl rfl (by omega) (by unfold maxLen; omega) ?_; intro w1 hx1 hb1; simp only [World.size_alloc] at hb1; have bx := (Boxed.new w [.slice As n.sets.length cs, k] 27).ext hx1; have bx0 := bx.at0; have bx1 := bx.at1; have bxg := bx.1; clear bx; have Hb1 := Lib.hid hb1; have Hx1 := Lib.hid (((Ext.refl w).alloc (.cells #[.slice As n.sets.length cs, k] 27)).trans hx1); clear hb1 hx1)
  have Hst := Lib.hid (PdSt.start (T := 89) (w := w) (g0 := w.heap.size + 1) (n := n) (by omega) Hb1.out h8 24)
  have hgz := Hb1.out.1
  have Hx2 : Hid (Ext w (w1.alloc (.cells #[.slice (some ⟨w.heap.size + 1, 0, none⟩) n.sets.length n.sets.length] 24))) := Lib.hid (Hx1.out.alloc _)
  refine Calls.mono (impl_solutions (PdSt 89 w.heap.size (w.heap.size + 1) w1.heap.size (w.heap.size + 1) n) w.heap.size 129 _ _ k n _ _ (PdSt.cb _ _ _ _ _ _) Tryz.call129 (possibleDays_1 _ _ _ _ n HM.out h8) (NetFit.of Hok.out) (H.out.1.ext Hx2.out (Nat.le_refl _)) (H.out.2.ext Hx2.out (Nat.le_refl _)) Hx2.out.size Hst.out) ?_
  rintro e w3 ⟨K', rfl, hst, hoff, -⟩
  have hx3 : Ext w w3 := Hx2.out.off hoff (fun k hk hh => by
    rcases hh.2 with e | ⟨i, _, e⟩
    · omega
    · simp [Value.ownBlock] at e)
  obtain ⟨f, hK, -, hgo, hbo, htab⟩ := hst
  have bb0 := hbo.at0
  have bbg := hbo.1
  have hne : w1.heap.size ≠ w.heap.size + 1 := by omega
  have HP0 := Lib.hid (show PuR 89 n w w1.heap.size (w.heap.size + 1) 0 f w3 from ⟨hx3, hbo, htab.congr (fun i _ => rfl)⟩)
  clear hoff hK hgo hbo htab hx3 Hst Hx2 bx0 bx1 bxg Hb1 Hx1
  go_wp2_with fail
  go_loopg [15] n.sets.length (fun q i wr => ∃ (j : Nat) (f1 : Nat → Value), j + q = n.sets.length ∧ i = .int .i64 j ∧ Hid (PuR 89 n w w1.heap.size (w.heap.size + 1) j f1 wr))
  case atStart => exact ⟨0, f, by omega, rfl, HP0⟩
  clear bb0 bbg HP0
  case round =>
    obtain ⟨j, f1, hj, rfl, HP⟩ := hrel
    have bb0 := HP.out.box.at0
    have bbg := HP.out.box.1
    by_cases hlt : j < n.sets.length
    · have hN : 0 < n.sets.length := by omega
      obtain ⟨off0, e0, hg0, hhd⟩ := HP.out.tab.head.at_ hN
      injection e0 with e0
      injection e0 with _ e0
      subst e0
      obtain ⟨hc1, hc2⟩ := hhd j (by omega)
      rw [Nat.zero_add] at hc1 hc2
      have hpu : puRow n j j = imL n j (allCh n.sets []) := by unfold puRow; rw [if_neg (by omega)]
      have hrow := HP.out.tab.row hlt
      rw [hpu] at hrow
      obtain ⟨Aj, cj, ej, _, _⟩ := hrow.len
      rw [ej] at hc1 hrow
      have Hrow := Lib.hid hrow
      have hok := imL_ok Hok.out hlt (l := allCh n.sets []) (fun c hc => allCh_isCh hc)
      have Hft := Lib.hid (mem_fromTo hok).1
      have Hbd := Lib.hid (show ∀ i, i < (imL n j (allCh n.sets [])).length → SpBd' (spAt (imL n j (allCh n.sets [])) i) from fun i hi => by
        obtain ⟨_, ⟨a1, a2⟩, ⟨a3, a4⟩⟩ := hok _ (spAt_mem hi)
        unfold SpBd'
        omega)
      have Hll := Lib.hid (show (imL n j (allCh n.sets [])).length ≤ 1048576 from by
        have h1 : (imL n j (allCh n.sets [])).length = (okCh n.links (allCh n.sets [])).length := by unfold imL; simp
        have h2 : (okCh n.links (allCh n.sets [])).length ≤ (allCh n.sets []).length := List.length_filter_le _ _
        have := HM.out
        omega)
      have Hpl := Lib.hid (imL_pos Hok.out hlt)
      have hji : (j : Int) < (n.sets.length : Int) := by omega
      have hj0 : (0 : Int) ≤ (j : Int) := by omega
      generalize imL n j (allCh n.sets []) = L at *
      clear hhd hrow hok hpu ej
      go_wp2_with fail
      go_region_held3 (fun w' => w'.cell? ⟨w1.heap.size, 0, none⟩ = some (.slice (some ⟨w.heap.size + 1, 0, none⟩) n.sets.length n.sets.length))
        (first | exact ((HP.out.box.ext (show Ext wr w4 from (by repeat (first | exact Ext.refl _ | assumption | refine Ext.alloc ?_ _ | refine Ext.drew ?_ | refine Ext.drewN ?_ _ | refine Ext.setCell ?_ (by first | (simp; done) | (simp; omega) | omega) _ | refine Ext.trans ?_ (by assumption))))).setOther (p := ⟨w.heap.size + 1, j, none⟩) hne _).at0 | exact (HP.out.box.ext (by repeat (first | exact Ext.refl _ | assumption | refine Ext.alloc ?_ _ | refine Ext.drew ?_ | refine Ext.drewN ?_ _ | refine Ext.setCell ?_ (by first | (simp; done) | (simp; omega) | omega) _ | refine Ext.trans ?_ (by assumption)))).at0)
        (first | (go_simp; go_at_call 130; refine Calls.mono (impl_united _ L _ (Hrow.out.up (by repeat (first | exact Ext.refl _ | assumption | refine Ext.alloc ?_ _ | refine Ext.drew ?_ | refine Ext.drewN ?_ _ | refine Ext.setCell ?_ (by first | (simp; done) | (simp; omega) | omega) _ | refine Ext.trans ?_ (by assumption)))) Hll.out Hbd.out Hft.out) ?_; rintro e w4 ⟨v4, rfl, hx4, hr4⟩; obtain ⟨A4, c4, rfl⟩ := ownsRow_len hr4; have g40 := ((show Ext wr w4 from (by repeat (first | exact Ext.refl _ | assumption | refine Ext.alloc ?_ _ | refine Ext.drew ?_ | refine Ext.drewN ?_ _ | refine Ext.setCell ?_ (by first | (simp; done) | (simp; omega) | omega) _ | refine Ext.trans ?_ (by assumption)))).cell (p := ⟨w.heap.size + 1, j, none⟩) hg0).trans hc1; have g41 := ((show Ext wr w4 from (by repeat (first | exact Ext.refl _ | assumption | refine Ext.alloc ?_ _ | refine Ext.drew ?_ | refine Ext.drewN ?_ _ | refine Ext.setCell ?_ (by first | (simp; done) | (simp; omega) | omega) _ | refine Ext.trans ?_ (by assumption)))).frozen (p := ⟨w.heap.size + 1, j, none⟩) hg0).trans hc2; have Hst := Lib.hid (HP.out.step (by omega) hne hlt (show Ext wr w4 from (by repeat (first | exact Ext.refl _ | assumption | refine Ext.alloc ?_ _ | refine Ext.drew ?_ | refine Ext.drewN ?_ _ | refine Ext.setCell ?_ (by first | (simp; done) | (simp; omega) | omega) _ | refine Ext.trans ?_ (by assumption)))) (Ext.size (by repeat (first | exact Ext.refl _ | assumption | refine Ext.alloc ?_ _ | refine Ext.drew ?_ | refine Ext.drewN ?_ _ | refine Ext.setCell ?_ (by first | (simp; done) | (simp; omega) | omega) _ | refine Ext.trans ?_ (by assumption)))) (by rw [← Hpl.out]; exact hr4)); clear hr4))
      all_goals
        clear g40 g41 hc1 hc2 bb0 bbg
        go_wp2_with fail
        go_roundg (n.sets.length - (j + 1))
        case measure => omega
        case rel => exact ⟨j + 1, _, by omega, by go_num, Hst⟩
    · obtain rfl : j = n.sets.length := by omega
      have Hdone := Lib.hid (HP.out.tab.sets (l := posSS n) (posSS_len n) (fun i hi => by rw [posSS_at hi]; unfold puRow; rw [if_pos hi]))
      go_wp2_with fail
      go_ret
      refine ⟨_, rfl, HP.out.ext, ?_⟩
      obtain ⟨g0', f', g', d1, d2, d3, d4⟩ := Hdone.out
      exact ⟨g0', f', g', d1, fun h0 => ⟨by have := (d2 h0).1; omega, (d2 h0).2⟩, fun i hi => ⟨(d3 i hi).1, fun h0 => ⟨by have := ((d3 i hi).2 h0).1; omega, ((d3 i hi).2 h0).2⟩⟩, d4⟩
end Go.Proofs.YtfajmlkiidnhlaaGreat

/- Contracts: the program's PossibleDays, SolvedNetwork. -/
namespace Go.Proofs.YtfajmlkiidnhlaaGreat
set_option linter.unusedVariables false
set_option linter.unusedSimpArgs false
open Go.RowKit
attribute [local go_sem] cell_onto

theorem vars1 {n : Net} {a : Int} : VarsOk n [a] ↔ 0 ≤ a ∧ a ≤ (n.sets.length : Int) - 1 := by
  constructor
  · intro h
    exact h 0 (by simp)
  · rintro h i hi
    match i, hi with
    | 0, _ => exact h
theorem ints1 (w : World) (a : Int) (T : TypeId) : Ints (w.alloc (.cells #[.int .i64 a] T)) 0 (w.alloc (.cells #[.int .i64 a] T)).heap.size (.slice (some ⟨w.heap.size, 0, none⟩) 1 1) [a] :=
  have h := Boxed.new w [.int .i64 a] T
  ⟨by simp [maxLen], _, 1, rfl, Nat.le_refl _, fun _ => ⟨w.heap.size, 0, rfl, Nat.zero_le _, h.1, fun i hi => by
    rw [Nat.zero_add]
    have hi' : i < 1 := by simpa using hi
    match i, hi' with
    | 0, _ => exact (h.2 0 _ rfl).1⟩⟩
noncomputable def posE (n : Net) (i : Int) : Int := codeE n (B (VarsOk n [i]))
noncomputable def psE (n : Net) (i : Int) : Int := bif B (posE n i = 0) then (bif B ((posL n i.toNat).length ≤ 300) then 0 else 3) else posE n i
noncomputable def psL (n : Net) (i : Int) : List Sp := bif B (psE n i = 0) then posL n i.toNat else []
theorem pos_zero {n : Net} {i : Int} (h : posE n i = 0) : NetOk n ∧ prodN n.sets ≤ 4096 ∧ 0 ≤ i ∧ i ≤ (n.sets.length : Int) - 1 := by
  obtain ⟨z1, z2, z3⟩ := codeE_zero h
  exact ⟨z1, few_of z3, vars1.1 (B_iff.1 z2)⟩
theorem ps_no {n : Net} {i : Int} (h : posE n i ≠ 0) : psE n i = posE n i ∧ psL n i = [] := by
  have e : psE n i = posE n i := by unfold psE; rw [B_false h]; rfl
  refine ⟨e, ?_⟩
  unfold psL; rw [e, B_false h]; rfl
theorem ps_big {n : Net} {i : Int} (h : posE n i = 0) (h2 : ¬ (posL n i.toNat).length ≤ 300) : psE n i = 3 ∧ psL n i = [] := by
  have e : psE n i = 3 := by unfold psE; rw [B_true h, B_false h2]; rfl
  refine ⟨e, ?_⟩
  unfold psL; rw [e, B_false (by omega)]; rfl
theorem ps_ok {n : Net} {i : Int} (h : posE n i = 0) (h2 : (posL n i.toNat).length ≤ 300) : psE n i = 0 ∧ psL n i = posL n i.toNat := by
  have e : psE n i = 0 := by unfold psE; rw [B_true h, B_true h2]; rfl
  refine ⟨e, ?_⟩
  unfold psL; rw [e, B_true rfl]; rfl
theorem psL_small (n : Net) (i : Int) : (psL n i).length ≤ 1048576 := by
  by_cases h : posE n i = 0
  · by_cases h2 : (posL n i.toNat).length ≤ 300
    · rw [(ps_ok h h2).2]; omega
    · rw [(ps_big h h2).2]; simp
  · rw [(ps_no h).2]; simp
noncomputable def svE (n : Net) : Int := bif B (codeE n true = 0) then limE (svN n) else codeE n true
noncomputable def svV (n : Net) : Net := bif B (codeE n true = 0) then limV (svN n) else ⟨[], []⟩
theorem sv_ok {n : Net} (h : codeE n true = 0) : svV n = limV (svN n) ∧ svE n = limE (svN n) := by unfold svV svE; rw [B_true h]; exact ⟨rfl, rfl⟩
theorem sv_no {n : Net} (h : codeE n true ≠ 0) : svV n = ⟨[], []⟩ ∧ svE n = codeE n true := by unfold svV svE; rw [B_false h]; exact ⟨rfl, rfl⟩
theorem svV_small (n : Net) : Small (svV n) := by
  by_cases h : codeE n true = 0
  · rw [(sv_ok h).1]; exact limV_small (svN_d (codeE_zero h).1)
  · rw [(sv_no h).1]; exact small_nil
theorem OwnSets.cell_ {w : World} {lo hi : Nat} {A : Option Addr} {c i : Nat} {l : List (List Sp)} (h : OwnSets w lo hi (.slice A l.length c) l) (hi' : i < l.length) :
    ∃ g off u gu, A = some ⟨g, off, none⟩ ∧ g < w.heap.size ∧ w.cell? ⟨g, off + i, none⟩ = some u ∧ Own w gu 2 u (setAt l i).length (spanCell (setAt l i)) ∧ (0 < (setAt l i).length → lo ≤ gu ∧ gu < hi) := by
  obtain ⟨g0, f, g, d1, d2, d3, d4⟩ := h
  obtain ⟨off, e, hg, hh⟩ := d1.at_ (by omega)
  exact ⟨g0, off, f i, g i, e, hg, (hh i (by omega)).1, (d3 i hi').1, fun h0 => ⟨((d3 i hi').2 h0).1, ((d3 i hi').2 h0).2.1⟩⟩
set_option maxRecDepth 100000 in
set_option maxHeartbeats 8000000 in
theorem impl_PossibleDays (s k : Value) (n : Net) (i : Int) (w : World) (h : NetIn w s k n) : Calls Tryz.prog 22 #[.agg #[s, k], .int .i64 i] w (NewSps2 (psL n i) (psE n i) w) := by
  have H := Lib.hid h
  have Hv : Hid (Ints ((w.alloc (.cells #[s, k] 27)).alloc (.cells #[.int .i64 i] 2)) 0 ((w.alloc (.cells #[s, k] 27)).alloc (.cells #[.int .i64 i] 2)).heap.size (.slice (some ⟨w.heap.size + 1, 0, none⟩) 1 1) [i]) := Lib.hid (by
    have := ints1 (w.alloc (.cells #[s, k] 27)) i 2
    rwa [show (w.alloc (.cells #[s, k] 27)).heap.size = w.heap.size + 1 from World.size_alloc _ _] at this)
  clear h
  go_enter Tryz.func22, Tryz.ntmps22
  go_wp2_with fail
  refine Calls.mono (impl_checkChoices s k _ n [i] _ (H.out.up (by repeat (first | exact Ext.refl _ | assumption | refine Ext.alloc ?_ _ | refine Ext.drew ?_ | refine Ext.drewN ?_ _ | refine Ext.setCell ?_ (by first | (simp; done) | (simp; omega) | omega) _ | refine Ext.trans ?_ (by assumption)))) Hv.out) ?_
  rintro e w1 ⟨rfl, hx1⟩
  have hb := (Boxed.new w [s, k] 27).ext (((Ext.refl _).alloc _).trans hx1); have hb0 := hb.at0; have hb1 := hb.at1; have hbg := hb.1; have Hhb := Lib.hid hb; clear hb
  have hx : Ext w w1 := (by repeat (first | exact Ext.refl _ | assumption | refine Ext.alloc ?_ _ | refine Ext.drew ?_ | refine Ext.drewN ?_ _ | refine Ext.setCell ?_ (by first | (simp; done) | (simp; omega) | omega) _ | refine Ext.trans ?_ (by assumption)))
  have He : Hid (codeE n (B (VarsOk n [i])) = posE n i) := Lib.hid rfl
  rw [He.out]
  clear hx1 Hv He
  by_cases hc : posE n i = 0
  · have Hc := Lib.hid hc
    have Hz := Lib.hid (pos_zero hc)
    obtain ⟨-, -, i1, i2⟩ := Hz.out
    rw [hc]
    clear hc
    have hiN : i < (n.sets.length : Int) := by omega
    have hil : i.toNat < n.sets.length := by omega
    go_wp2_with fail
    refine Calls.mono (impl_possibleDays _ _ n _ (H.out.up (by repeat (first | exact Ext.refl _ | assumption | refine Ext.alloc ?_ _ | refine Ext.drew ?_ | refine Ext.drewN ?_ _ | refine Ext.setCell ?_ (by first | (simp; done) | (simp; omega) | omega) _ | refine Ext.trans ?_ (by assumption)))) Hz.out.1 Hz.out.2.1) ?_
    rintro e w2 ⟨v2, rfl, hx2, hos⟩
    obtain ⟨A2, c2, rfl⟩ := hos.len
    have hpl := posSS_len n
    obtain ⟨g, off, u, gu, rfl, hg, hcell, hown, hgu⟩ := hos.cell_ (i := i.toNat) (by omega)
    rw [posSS_at hil] at hown hgu
    obtain ⟨Au, cu, rfl⟩ := hown.len
    have Hown := Lib.hid hown
    have Hgu := Lib.hid hgu
    have hxx : Ext w w2 := (by repeat (first | exact Ext.refl _ | assumption | refine Ext.alloc ?_ _ | refine Ext.drew ?_ | refine Ext.drewN ?_ _ | refine Ext.setCell ?_ (by first | (simp; done) | (simp; omega) | omega) _ | refine Ext.trans ?_ (by assumption)))
    clear hos hown hgu hb0 hb1 hbg Hhb
    rw [hpl]
    by_cases h3 : (posL n i.toNat).length ≤ 300
    · have Hn := Lib.hid (ps_ok Hc.out h3)
      go_wp2_with fail
      refine Calls.mono (impl_limited_yes _ _ _ _ h3) ?_
      rintro e w4 ⟨rfl, rfl⟩
      go_wp2_with fail
      go_ret2
      rw [Hn.out.1, Hn.out.2]
      exact ⟨_, gu, rfl, hxx, fun h0 => by have := (Hgu.out h0).1; have := hx.size; omega, Hown.out⟩
    · have Hn := Lib.hid (ps_big Hc.out h3)
      have hml := Hown.out.1
      go_wp2_with fail
      refine Calls.mono (impl_limited_no _ _ _ _ (by unfold maxLen at hml; omega) h3) ?_
      rintro e w4 ⟨rfl, rfl⟩
      go_wp2_with fail
      go_ret2
      rw [Hn.out.1, Hn.out.2]
      exact NewSps2.nil 3 (by repeat (first | exact Ext.refl _ | assumption | refine Ext.alloc ?_ _ | refine Ext.drew ?_ | refine Ext.drewN ?_ _ | refine Ext.setCell ?_ (by first | (simp; done) | (simp; omega) | omega) _ | refine Ext.trans ?_ (by assumption)))
  · have Hn := Lib.hid (ps_no hc)
    have hne : (posE n i != 0) = true := bne_iff_ne.2 hc
    have hde : decide (posE n i = 0) = false := decide_eq_false hc
    generalize posE n i = c at *
    go_wp2_with fail
    go_ret2
    rw [Hn.out.1, Hn.out.2]
    exact NewSps2.nil c hx
set_option maxRecDepth 100000 in
set_option maxHeartbeats 8000000 in
theorem impl_SolvedNetwork (s k : Value) (n : Net) (w : World) (h : NetIn w s k n) : Calls Tryz.prog 25 #[.agg #[s, k]] w (NewNet2 (svV n) (svE n) w) := by
  obtain ⟨As, c0, rfl, hns0, hcs0⟩ := h.1.len
  obtain ⟨Ar, c1, rfl, hnk0, hck0⟩ := h.2.len
  have H := Lib.hid h
  clear h
  go_enter Tryz.func25, Tryz.ntmps25
  go_wp2_with fail
  refine Calls.mono (impl_checkChoices _ _ _ n [] _ (H.out.up (by repeat (first | exact Ext.refl _ | assumption | refine Ext.alloc ?_ _ | refine Ext.drew ?_ | refine Ext.drewN ?_ _ | refine Ext.setCell ?_ (by first | (simp; done) | (simp; omega) | omega) _ | refine Ext.trans ?_ (by assumption)))) (nilInts _)) ?_
  rintro e w1 ⟨rfl, hx1⟩
  have hx : Ext w w1 := (by repeat (first | exact Ext.refl _ | assumption | refine Ext.alloc ?_ _ | refine Ext.drew ?_ | refine Ext.drewN ?_ _ | refine Ext.setCell ?_ (by first | (simp; done) | (simp; omega) | omega) _ | refine Ext.trans ?_ (by assumption)))
  have Hnb := Lib.hid (((Boxed.new w [.slice As n.sets.length c0, .slice Ar n.links.length c1] 27).ext ((Ext.refl _).alloc (.cells #[.slice none 0 0, .slice none 0 0] 27))).ext hx1)
  have Hrb : Hid (Boxed w1 (w.heap.size + 1) [.slice none 0 0, .slice none 0 0]) := Lib.hid
    (by
      have := (Boxed.new (w.alloc (.cells #[.slice As n.sets.length c0, .slice Ar n.links.length c1] 27)) [.slice none 0 0, .slice none 0 0] 27).ext hx1
      rwa [World.size_alloc] at this)
  have hr1 := Hrb.out.1
  have He : Hid (codeE n (B (VarsOk n [])) = codeE n true) := Lib.hid (by rw [B_true (varsOk_nil n)])
  rw [He.out]
  clear hx1 He
  by_cases hc : codeE n true = 0
  · have Hc := Lib.hid hc
    have Hok := Lib.hid (codeE_zero hc).1
    have Hfew := Lib.hid (few_of (codeE_zero hc).2.2)
    have Hn := Lib.hid (sv_ok hc)
    have h20 := (codeE_zero hc).1.2.1
    rw [hc]
    clear hc
    have hb := Hnb.out; have hb0 := hb.at0; have hb1 := hb.at1; have hbg := hb.1; have Hhb := Lib.hid hb; clear hb
    go_wp2_with fail
    refine Calls.mono (impl_ownNetwork _ _ n _ (H.out.up hx) Hok.out.small) ?_
    rintro e w2 hnew
    obtain ⟨Ao, co, Aq, cq, a, b, rfl, hx2, hS2⟩ := NetS.of2 hnew
    have hxb : Ext w2 (w2.alloc (.cells #[.slice Ao n.sets.length co, .slice Aq n.links.length cq] 27)) := (by repeat (first | exact Ext.refl _ | assumption | refine Ext.alloc ?_ _ | refine Ext.drew ?_ | refine Ext.drewN ?_ _ | refine Ext.setCell ?_ (by first | (simp; done) | (simp; omega) | omega) _ | refine Ext.trans ?_ (by assumption)))
    have hbw2 := hS2.bw
    have hla := hS2.la
    have hz2 := hx2.size
    have hzw := hx.size
    have hsz : (w2.alloc (.cells #[.slice Ao n.sets.length co, .slice Aq n.links.length cq] 27)).heap.size = w2.heap.size + 1 := by simp
    have HS := Lib.hid (hS2.ext hxb)
    have Hob := Lib.hid (Boxed.new w2 [.slice Ao n.sets.length co, .slice Aq n.links.length cq] 27)
    have Hnb2 := Lib.hid ((Hnb.out.ext hx2).ext hxb)
    have Hrb2 := Lib.hid ((Hrb.out.ext hx2).ext hxb)
    have Hx := Lib.hid ((hx.trans hx2).trans hxb)
    obtain ⟨w3, hw3⟩ : ∃ x : World, x = w2.alloc (.cells #[.slice Ao n.sets.length co, .slice Aq n.links.length cq] 27) := ⟨_, rfl⟩
    rw [← hw3] at HS Hob Hnb2 Hrb2 Hx hsz
    clear hb0 hb1 hbg Hhb
    have hb := Hnb.out.ext hx2; have hb0 := hb.at0; have hb1 := hb.at1; have hbg := hb.1; have Hhb := Lib.hid hb; clear hb
    clear hnew hx2 hS2 hxb Hnb Hrb
    go_wp2_with fail
    rw [← hw3]
    clear hw3
    refine Calls.mono (impl_possibleDays _ _ n _ (H.out.up Hx.out) Hok.out Hfew.out) ?_
    rintro e w4 ⟨v4, rfl, hx4, hos⟩
    obtain ⟨A4, c4, rfl⟩ := hos.len
    have Hos := Lib.hid hos
    have Hob4 := Lib.hid (Hob.out.ext hx4)
    have Hrb4 := Lib.hid (Hrb2.out.ext hx4)
    clear hos hb0 hb1 hbg Hhb
    have ob := Hob4.out; have ob0 := ob.at0; have ob1 := ob.at1; have obg := ob.1; have Hob := Lib.hid ob; clear ob
    have of0 := Hob4.out.fz 0 (by simp)
    go_wp2_with fail
    have hz4 := hx4.size
    have hO : Off (fun x => x = w2.heap.size) w4 (w4.setCell ⟨w2.heap.size, 0, none⟩ (.slice A4 (posSS n).length c4)) := Off.setCell (S := fun x => x = w2.heap.size) (p := ⟨w2.heap.size, 0, none⟩) (Off.refl _ _) (.inl rfl) _
    obtain ⟨w5, hw5⟩ : ∃ x : World, x = w4.setCell ⟨w2.heap.size, 0, none⟩ (.slice A4 (posSS n).length c4) := ⟨_, rfl⟩
    rw [← hw5] at hO
    rw [← hw5]
    have hz5 := hO.size
    have HS5 : Hid (NetS 98 w5 w1.heap.size w3.heap.size w4.heap.size (.slice A4 (posSS n).length c4) (.slice Aq n.links.length cq) (svN n)) := Lib.hid (by
      have hl4 := row_ext HS.out.links hx4
      refine ⟨by have := HS.out.la; omega, by omega, by omega, ?_, ?_, ?_⟩
      · exact Hos.out.off hO (fun k h1 h2 hh => by omega)
      · exact ownsRow_off hl4 hO (fun g hg hh => by have := HS.out.lk g hg; have := HS.out.ab; omega)
      · exact fun g hg => by have := HS.out.lk g hg; have := HS.out.ab; omega)
    have Hx5 := Lib.hid ((Hx.out.trans hx4).off hO (fun x hx hh => by omega))
    have Hrb5 := Lib.hid (Hrb4.out.off hO (fun hh => by omega))
    clear ob0 ob1 obg of0 Hob hO hw5
    by_cases hl : Lim (svN n)
    · have Hl := Lib.hid hl
      clear hl
      refine Calls.mono (impl_limitedNetwork_yes _ _ (svN n) _ HS5.out.netIn Hl.out) ?_
      rintro e w6 ⟨rfl, hx6⟩
      have rb := Hrb5.out.ext hx6; have rb0 := rb.at0; have rb1 := rb.at1; have rbg := rb.1; have Hrb := Lib.hid rb; clear rb
      have rf0 := Hrb.out.fz 0 (by simp)
      have rf1 := Hrb.out.fz 1 (by simp)
      go_wp2_with fail
      refine bodyPost_ret (v := .tuple #[.agg #[.slice A4 (posSS n).length c4, .slice Aq n.links.length cq], .int .i64 0]) (by simp [results, Tryz.results25, go_sem, *]) rfl ?_
      rw [Hn.out.1, Hn.out.2, (lim_yes Hl.out).1, (lim_yes Hl.out).2]
      exact NetS.fin2 0 (Hx5.out.trans hx6) (by omega) (by omega) (HS5.out.ext hx6)
    · have Hl := Lib.hid hl
      clear hl
      refine Calls.mono (impl_limitedNetwork_no _ _ (svN n) _ HS5.out.netIn Hl.out) ?_
      rintro e w6 ⟨rfl, hx6⟩
      have rb := Hrb5.out.ext hx6; have rb0 := rb.at0; have rb1 := rb.at1; have rbg := rb.1; have Hrb := Lib.hid rb; clear rb
      have rf0 := Hrb.out.fz 0 (by simp)
      have rf1 := Hrb.out.fz 1 (by simp)
      go_wp2_with fail
      refine bodyPost_ret (v := .tuple #[.agg #[.slice none 0 0, .slice none 0 0], .int .i64 3]) (by simp [results, Tryz.results25, go_sem, *]) rfl ?_
      rw [Hn.out.2, (lim_no Hl.out).1]
      exact Lib.nil2 3 (by rw [Hn.out.1, (lim_no Hl.out).2]) (Hx5.out.trans hx6) (by omega)
  · have Hn := Lib.hid (sv_no hc)
    have hne : (codeE n true != 0) = true := bne_iff_ne.2 hc
    have hde : decide (codeE n true = 0) = false := decide_eq_false hc
    generalize codeE n true = c at *
    have rb := Hrb.out; have rb0 := rb.at0; have rb1 := rb.at1; have rbg := rb.1; have Hrb := Lib.hid rb; clear rb
    have rf0 := Hrb.out.fz 0 (by simp)
    have rf1 := Hrb.out.fz 1 (by simp)
    go_wp2_with fail
    refine bodyPost_ret (v := .tuple #[.agg #[.slice none 0 0, .slice none 0 0], .int .i64 c]) (by simp [results, Tryz.results25, go_sem, *]) rfl ?_
    rw [Hn.out.2]
    exact Lib.nil2 c Hn.out.1 hx (by omega)
end Go.Proofs.YtfajmlkiidnhlaaGreat
