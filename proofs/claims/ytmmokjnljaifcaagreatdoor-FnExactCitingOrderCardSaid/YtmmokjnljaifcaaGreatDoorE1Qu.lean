/- Texts merged (a claim holds at most sixty files): Qu, Qv. -/
import Derived.Test.YtmmokjnljaifcaaGreatDoorE1Qi
import Derived.Test.YtmmokjnljaifcaaGreatDoorE1Qc
import Derived.Test.YtmmokjnljaifcaaGreatDoorE1Js
import Derived.Test.YtmmokjnljaifcaaGreatDoorE1Bd
import Derived.StillTailTactics
/- Contracts: CitingOrder, the program's. -/
namespace Go.Proofs.YtmmokjnljaifcaaGreatDoor
set_option linter.unusedVariables false
set_option linter.unusedSimpArgs false
open Go.RowKit
attribute [local go_sem] cell_onto

theorem fst_mem (L : List ByteArray) (x : ByteArray) : 0 ≤ fstIx (fun i => strAt L i = x) L.length ↔ x ∈ L := by
  constructor
  · intro h
    rcases fstIx_cases (fun i => strAt L i = x) L.length with ⟨h1, _⟩ | ⟨j, h1, h2, h3, _⟩
    · omega
    · unfold strAt at h3
      rw [List.getD_eq_getElem?_getD, List.getElem?_eq_getElem h1] at h3
      have h3 : L[j] = x := h3
      rw [← h3]
      exact List.getElem_mem h1
  · intro h
    obtain ⟨j, hj, e⟩ := List.getElem_of_mem h
    rcases fstIx_cases (fun i => strAt L i = x) L.length with ⟨_, h2⟩ | ⟨k, h1, h2, h3, _⟩
    · refine absurd ?_ (h2 j hj)
      unfold strAt
      rw [List.getD_eq_getElem?_getD, List.getElem?_eq_getElem hj]
      exact e
    · rw [h2]; omega
/-- what the program asks of one deed -/
def FreeN (names : List ByteArray) (d : Ded) : Prop := d.nm ∉ names ∧ ∀ k, k < d.ci.length → strAt d.ci k ∈ names
/-- a box of one cell stands -/
def OneB (w : World) (g : Nat) (u : Value) : Prop := g < w.heap.size ∧ w.cell? ⟨g, 0, none⟩ = some u
theorem OneB.ext {w w' : World} {g : Nat} {u : Value} (h : OneB w g u) (hx : Ext w w') : OneB w' g u := ⟨Nat.lt_of_lt_of_le h.1 hx.size, (hx.cell (p := ⟨g, 0, none⟩) h.1).trans h.2⟩
theorem slices_Contains_in (v : Value) (l : List ByteArray) (x : ByteArray) (w : World) (h : Strs w 0 w.heap.size v l) : Calls Tryz.prog 68 #[v, .string x] w (RetX (.bool (B (x ∈ l))) w) := by
  have := slices_Contains_strs v l x w h
  rw [B_congr (fst_mem l x)] at this
  exact this
set_option maxHeartbeats 1000000 in
theorem impl_CitingOrder_11 (x : ByteArray) (g : Nat) (un : Value) (L : List ByteArray) (w : World) (hg : OneB w g un) (h : Strs w 0 w.heap.size un L) :
    Calls Tryz.prog 70 #[.string x, .pointer (some ⟨g, 0, none⟩)] w (RetX (.bool (B (¬ x ∈ L))) w) := by
  obtain ⟨hg0, hc⟩ := hg
  obtain ⟨q, eq⟩ : ∃ q, B (x ∈ L) = q := ⟨_, rfl⟩
  have Hq := Lib.hid eq
  have Hc := Lib.hid (show ∀ W, Ext w W → Calls Tryz.prog 68 #[un, .string x] W (RetX (.bool q) W) from fun W hX => by rw [← eq]; exact slices_Contains_in un L x W (h.up hX))
  clear h eq
  go_enter Tryz.func70, Tryz.ntmps70
  go_wp2_with fail
  refine Calls.mono (Hc.out _ (Ext.refl _)) ?_
  rintro e w1 ⟨rfl, hx1⟩
  cases q
  case false =>
    go_wp2_with fail
    go_ret
    exact ⟨ret_bool (B_true (B_not.1 Hq.out)).symm, (by repeat (first | exact Ext.refl _ | assumption | refine Ext.alloc ?_ _ | refine Ext.drew ?_ | refine Ext.drewN ?_ _ | refine Ext.setCell ?_ (by first | (simp; done) | (simp; omega) | omega) _ | refine Ext.trans ?_ (by assumption)))⟩
  go_wp2_with fail
  go_ret
  exact ⟨ret_bool (B_false (fun hn => hn (B_iff.1 Hq.out))).symm, (by repeat (first | exact Ext.refl _ | assumption | refine Ext.alloc ?_ _ | refine Ext.drew ?_ | refine Ext.drewN ?_ _ | refine Ext.setCell ?_ (by first | (simp; done) | (simp; omega) | omega) _ | refine Ext.trans ?_ (by assumption)))⟩
set_option maxRecDepth 100000 in
set_option maxHeartbeats 4000000 in
theorem impl_CitingOrder_1 (d : Ded) (vd vw vc : Value) (g : Nat) (un : Value) (L : List ByteArray) (w : World) (hg : OneB w g un) (h : Strs w 0 w.heap.size un L) (hk : Strs w 0 w.heap.size vc d.ci) :
    Calls Tryz.prog 67 #[.agg #[.string d.nm, vd, vw, .string d.pl, .string d.se, .string d.ha, vc], .pointer (some ⟨g, 0, none⟩)] w (RetX (.bool (B (FreeN L d))) w) := by
  have hg0 := hg.1
  have hg1 : g < w.heap.size + 1 := by omega
  have hc := hg.2
  have Hg := Lib.hid hg
  have H := Lib.hid h
  have Hk := Lib.hid hk
  obtain ⟨q1, e1⟩ : ∃ q, B (d.nm ∈ L) = q := ⟨_, rfl⟩
  obtain ⟨q2, e2⟩ : ∃ q, B (0 ≤ fstIx (fun k => ¬ strAt d.ci k ∈ L) d.ci.length) = q := ⟨_, rfl⟩
  have Hq1 := Lib.hid e1
  have Hq2 := Lib.hid e2
  clear h hk e1 e2 hg
  have Hb := Lib.hid (Boxed.new w [.string d.nm, vd, vw, .string d.pl, .string d.se, .string d.ha, vc] 109)
  go_enter Tryz.func67, Tryz.ntmps67
  go_wp2_with fail
  refine Calls.mono (slices_Contains_in un L d.nm _ (H.out.up (by repeat (first | exact Ext.refl _ | assumption | refine Ext.alloc ?_ _ | refine Ext.drew ?_ | refine Ext.drewN ?_ _ | refine Ext.setCell ?_ (by first | (simp; done) | (simp; omega) | omega) _ | refine Ext.trans ?_ (by assumption))))) ?_
  rintro e w1 ⟨rfl, hx1⟩
  rw [Hq1.out]
  have hx : Ext w w1 := (by repeat (first | exact Ext.refl _ | assumption | refine Ext.alloc ?_ _ | refine Ext.drew ?_ | refine Ext.drewN ?_ _ | refine Ext.setCell ?_ (by first | (simp; done) | (simp; omega) | omega) _ | refine Ext.trans ?_ (by assumption)))
  have Hb1 := Lib.hid (Hb.out.ext hx1)
  have c6 := Hb1.out.cl8 6 rfl
  have cg := Hb1.out.1
  clear hx1
  cases q1
  case true =>
    go_wp2_with fail
    go_ret
    exact ⟨ret_bool (B_false (fun hn => hn.1 (B_iff.1 Hq1.out))).symm, hx⟩
  go_wp2_with fail
  refine Calls.mono (containsFunc_strs vc d.ci 70 _ (fun k => ¬ strAt d.ci k ∈ L) _ (Hk.out.up hx) Tryz.call70 (fun k w' hk' hxx => impl_CitingOrder_11 (strAt d.ci k) g un L w' (Hg.out.ext (hx.trans hxx)) (H.out.up (hx.trans hxx)))) ?_
  rintro e w2 ⟨rfl, hx2⟩
  rw [Hq2.out]
  have hx' := hx.trans hx2
  cases q2
  case true =>
    go_wp2_with fail
    go_ret
    exact ⟨ret_bool (B_false (fun hn => (some_iff (p := fun k => strAt d.ci k ∈ L)).2 hn.2 (B_iff.1 Hq2.out))).symm, hx'⟩
  go_wp2_with fail
  go_ret
  exact ⟨ret_bool (B_true ⟨B_not.1 Hq1.out, (some_iff (p := fun k => strAt d.ci k ∈ L)).1 (B_not.1 Hq2.out)⟩).symm, hx'⟩
/-! ### the order under way -/
def nmsOf (ds : List Ded) (out : List Int) : List ByteArray := out.map (fun x => (dedAt ds x.toNat).nm)
theorem nmsOf_push (ds : List Ded) (out : List Int) (x : Int) : nmsOf ds (out ++ [x]) = nmsOf ds out ++ [(dedAt ds x.toNat).nm] := by unfold nmsOf; rw [List.map_append]; rfl
theorem nmsOf_len (ds : List Ded) (out : List Int) : (nmsOf ds out).length = out.length := by unfold nmsOf; rw [List.length_map]
theorem next_names {W : Wrl} {ds : List Ded} {out : List Int} (h : DedsOk W ds) (ho : IxOk ds out) : fstIx (fun i => FreeN (nmsOf ds out) (dedAt ds i)) ds.length = coNext ds out := coNext_names h.2.2 ho
theorem co_stop' {W : Wrl} {ds : List Ded} (h : DedsOk W ds) {n : Nat} {out : List Int} (hn : n < ds.length) (ho : coTo ds n = some out) (h1 : coNext ds out = -1) : coE W ds = 5 ∧ coL W ds = [] :=
  co_stop h (coTo_never (coTo_stop ho h1) ds.length (by omega))
/-- two rows of different kinds lie apart -/
theorem rows_apart {w : World} {b1 b2 n1 n2 s1 s2 : Nat} {e1 e2 : TypeId} {v1 v2 : Value} {x1 x2 : List Value} (h1 : w.ownsRow b1 e1 s1 v1 n1 x1) (h2 : w.ownsRow b2 e2 s2 v2 n2 x2) (hne : e1 ≠ e2) : ∀ g, v1.ownBlock = some g → v2.ownBlock ≠ some g := by
  intro g hg1 hg2
  rcases h1.2 with ⟨rfl, _⟩ | ⟨g1, cap1, cur1, rfl, _, k1, _⟩
  · simp [Value.ownBlock] at hg1
  · rcases h2.2 with ⟨rfl, _⟩ | ⟨g2, cap2, cur2, rfl, _, k2, _⟩
    · simp [Value.ownBlock] at hg2
    · have t1 : g1 = g := by simpa [Value.ownBlock] using hg1
      have t2 : g2 = g := by simpa [Value.ownBlock] using hg2
      subst t1
      subst t2
      have := k1.symm.trans k2
      simp at this
      exact hne this.2
theorem OneB.put {w w' : World} {g b : Nat} {u v v' : Value} (h : OneB w g u) (hp : Put b w v w' v') (hne : ∀ k, v.ownBlock = some k → k ≠ g) : OneB w' g u :=
  ⟨Nat.lt_of_lt_of_le h.1 hp.size, (hp.1.cell (p := ⟨g, 0, none⟩) h.1 (fun hh => hne g hh.2.2 rfl)).trans h.2⟩
end Go.Proofs.YtmmokjnljaifcaaGreatDoor

/- Contracts: CitingOrder, the program's: the loop. -/
namespace Go.Proofs.YtmmokjnljaifcaaGreatDoor
set_option linter.unusedVariables false
set_option linter.unusedSimpArgs false
open Go.RowKit
attribute [local go_sem] cell_onto

theorem one_str (x : ByteArray) : ∀ i, i < 1 → [Value.string x][i]? = some (strCell [x] i)
  | 0, _ => rfl
  | i + 1, h => absurd h (by omega)
/-- the order under way: the numbers, the names, the box that holds the names -/
def CoSt (w : World) (b G : Nat) (T1 T2 : TypeId) (ds : List Ded) (o : List Int) (u un : Value) (wr : World) : Prop :=
  Ext w wr ∧ wr.ownsRow b T1 1 u o.length (cellsOf (o.length * 1) (intCell o)) ∧ RowStr wr b T2 un (nmsOf ds o) ∧ Boxed wr G [un] ∧ (∀ k, u.ownBlock = some k → k ≠ G) ∧ (∀ k, un.ownBlock = some k → k ≠ G)
theorem CoSt.ext {w wr wx : World} {b G : Nat} {T1 T2 : TypeId} {ds : List Ded} {o : List Int} {u un : Value} (h : CoSt w b G T1 T2 ds o u un wr) (hx : Ext wr wx) : CoSt w b G T1 T2 ds o u un wx :=
  ⟨h.1.trans hx, row_ext h.2.1 hx, h.2.2.1.ext hx, h.2.2.2.1.ext hx, h.2.2.2.2.1, h.2.2.2.2.2⟩
/-- behind the first append -/
theorem CoSt.one {w wr w7 : World} {b G : Nat} {T1 T2 : TypeId} {ds : List Ded} {o : List Int} {u un v7 : Value} {x : Int} (h : CoSt w b G T1 T2 ds o u un wr) (hp : Put b wr u w7 v7) (hT : T1 ≠ T2) (hb : w.heap.size ≤ b)
    (h1 : w7.ownsRow b T1 1 v7 (o.length + 1) (cellsOf (o.length * 1) (intCell o) ++ cellsOf (1 * 1) (intCell [x]))) :
    Ext w w7 ∧ w7.ownsRow b T1 1 v7 (o ++ [x]).length (cellsOf ((o ++ [x]).length * 1) (intCell (o ++ [x]))) ∧ RowStr w7 b T2 un (nmsOf ds o) ∧ Boxed w7 G [un] ∧ (∀ k, v7.ownBlock = some k → k ≠ G) := by
  obtain ⟨a1, a2, a3, a4, a5, a6⟩ := h
  refine ⟨hp.ext a1 hb, ?_, ?_, a4.off hp.1 (fun hh => a5 G hh.2.2 rfl), fun k hk => ?_⟩
  · rw [← intCells_push, List.length_append]; exact h1
  · exact ownsRow_off a3 hp.1 (fun g hg hh => rows_apart a2 a3 hT g hh.2.2 hg)
  · rcases hp.2 k hk with hh | hh
    · exact a5 k hh.2.2
    · have := a4.1; omega
/-- behind both, and the store -/
theorem CoSt.two {w wr w8 : World} {b G : Nat} {T1 T2 : TypeId} {ds : List Ded} {o : List Int} {un v7 v8 : Value} {x : Int} (hw : Ext w wr) (h1 : wr.ownsRow b T1 1 v7 (o ++ [x]).length (cellsOf ((o ++ [x]).length * 1) (intCell (o ++ [x]))))
    (h2 : RowStr wr b T2 un (nmsOf ds o)) (hB : Boxed wr G [un]) (hn : ∀ k, v7.ownBlock = some k → k ≠ G) (hm : ∀ k, un.ownBlock = some k → k ≠ G) (hT : T1 ≠ T2) (hb : w.heap.size ≤ b) (hG : w.heap.size ≤ G)
    (hp : Put b wr un w8 v8) (h3 : w8.ownsRow b T2 1 v8 ((nmsOf ds o).length + 1) (cellsOf ((nmsOf ds o).length * 1) (strCell (nmsOf ds o)) ++ cellsOf (1 * 1) (strCell [(dedAt ds x.toNat).nm]))) :
    CoSt w b G T1 T2 ds (o ++ [x]) v7 v8 (w8.setCell ⟨G, 0, none⟩ v8) := by
  have k8 : ∀ k, v8.ownBlock = some k → k ≠ G := fun k hk => by
    rcases hp.2 k hk with hh | hh
    · exact hm k hh.2.2
    · have := hB.1; omega
  have r1 : w8.ownsRow b T1 1 v7 (o ++ [x]).length (cellsOf ((o ++ [x]).length * 1) (intCell (o ++ [x]))) := ownsRow_off h1 hp.1 (fun g hg hh => rows_apart h1 h2 hT g hg hh.2.2)
  have r2 : RowStr w8 b T2 v8 (nmsOf ds (o ++ [x])) := by rw [nmsOf_push]; exact RowStr.push h3
  have hO : Off (fun k => k = G) w8 (w8.setCell ⟨G, 0, none⟩ v8) := Off.setCell (S := fun k => k = G) (Off.refl _ _) (.inl rfl) v8
  have hB8 := (hB.off hp.1 (fun hh => hm G hh.2.2 rfl)).set 0 v8 (by simp)
  exact ⟨(hp.ext hw hb).setCell (p := ⟨G, 0, none⟩) hG v8, ownsRow_off r1 hO (fun g hg e => hn g hg e), ownsRow_off r2 hO (fun g hg e => k8 g hg e), hB8, hn, k8⟩
set_option maxRecDepth 100000 in
set_option maxHeartbeats 16000000 in
theorem impl_CitingOrder (vr vp vt vl vw vs vse vha v : Value) (W : Wrl) (l : List Ded) (w : World) (h : WrlAt w 0 w.heap.size vr vp vt vl vw vs vse vha W) (hd : Deds w 0 w.heap.size v l) :
    Calls Tryz.prog 16 #[.agg #[vr, .int .i64 W.ch.fr, .int .i64 W.ch.to, vp, vt, vl, vw, vs, vse, vha], v] w (NewInts2 (coL W l) (coE W l) w) := by
  obtain ⟨A, c, rfl, hn, hc⟩ := hd.len
  have H := Lib.hid h
  have Hd := Lib.hid hd
  clear h hd
  obtain ⟨q1, e1⟩ : ∃ b, B (DedsOk W l) = b := ⟨_, rfl⟩
  have Hq1 := Lib.hid e1
  clear e1
  go_enter Tryz.func16, Tryz.ntmps16
  go_wp2_with fail
  refine Calls.mono (impl_AreDeeds vr vp vt vl vw vs vse vha _ W l _ (H.out.up (by repeat (first | exact Ext.refl _ | assumption | refine Ext.alloc ?_ _ | refine Ext.drew ?_ | refine Ext.drewN ?_ _ | refine Ext.setCell ?_ (by first | (simp; done) | (simp; omega) | omega) _ | refine Ext.trans ?_ (by assumption)))) (Hd.out.up (by repeat (first | exact Ext.refl _ | assumption | refine Ext.alloc ?_ _ | refine Ext.drew ?_ | refine Ext.drewN ?_ _ | refine Ext.setCell ?_ (by first | (simp; done) | (simp; omega) | omega) _ | refine Ext.trans ?_ (by assumption))))) ?_
  rintro e w1 ⟨rfl, hx1⟩
  rw [Hq1.out]
  have hx : Ext w w1 := (by repeat (first | exact Ext.refl _ | assumption | refine Ext.alloc ?_ _ | refine Ext.drew ?_ | refine Ext.drewN ?_ _ | refine Ext.setCell ?_ (by first | (simp; done) | (simp; omega) | omega) _ | refine Ext.trans ?_ (by assumption)))
  clear hx1
  cases q1
  case false =>
    obtain ⟨k1, k2⟩ := co_no (B_not.1 Hq1.out)
    have K := Lib.hid (And.intro k1 k2)
    clear k1 k2
    go_wp2_with fail
    go_ret2
    rw [K.out.1, K.out.2]
    exact NewInts2.nil 1 hx
  have Hok := Lib.hid (B_iff.1 Hq1.out)
  have h8 := Hok.out.2.1
  have hzw := hx.size
  go_wp2_with fail
  go_loopg [6, 8] l.length (fun q u u8 wr => ∃ (o : List Int) (un : Value), o.length + q = l.length ∧ coTo l o.length = some o ∧ CoSt w w1.heap.size (w1.heap.size + 2) 2 9 l o u un wr)
  case atStart =>
    refine ⟨[], .slice (some ⟨w1.heap.size + 1, 0, none⟩) 0 0, by simp, rfl, (by repeat (first | exact Ext.refl _ | assumption | refine Ext.alloc ?_ _ | refine Ext.drew ?_ | refine Ext.drewN ?_ _ | refine Ext.setCell ?_ (by first | (simp; done) | (simp; omega) | omega) _ | refine Ext.trans ?_ (by assumption))), ?_, ?_, ?_, ?_, ?_⟩
    · have := World.ownsRow_made (base := w1.heap.size) (e := 2) (size := 1) w1 #[] 0 (Nat.le_refl _) (Nat.zero_le _) rfl
      exact row_ext this (by repeat (first | exact Ext.refl _ | assumption | refine Ext.alloc ?_ _ | refine Ext.drew ?_ | refine Ext.drewN ?_ _ | refine Ext.setCell ?_ (by first | (simp; done) | (simp; omega) | omega) _ | refine Ext.trans ?_ (by assumption)))
    · have := RowStr.made (w1.alloc (.cells #[] 2)) 9
      rw [World.size_alloc] at this
      exact ownsRow_mono (row_ext this (by repeat (first | exact Ext.refl _ | assumption | refine Ext.alloc ?_ _ | refine Ext.drew ?_ | refine Ext.drewN ?_ _ | refine Ext.setCell ?_ (by first | (simp; done) | (simp; omega) | omega) _ | refine Ext.trans ?_ (by assumption)))) (by omega)
    · have := Boxed.new ((w1.alloc (.cells #[] 2)).alloc (.cells #[] 9)) [.slice (some ⟨w1.heap.size + 1, 0, none⟩) 0 0] 31
      rw [World.size_alloc, World.size_alloc] at this
      exact this
    · intro k hk; simp [Value.ownBlock] at hk; omega
    · intro k hk; simp [Value.ownBlock] at hk; omega
  case round =>
    obtain ⟨o, un, hq, hco, hst⟩ := hrel
    obtain ⟨A6, c6, rfl⟩ := ownsRow_len hst.2.1
    obtain ⟨An, cn, rfl⟩ := ownsRow_len hst.2.2.1
    have Hco := Lib.hid hco
    have Hst := Lib.hid hst
    have hxr := hst.1
    have hzr := hxr.size
    have Hix := Lib.hid (coTo_ix hco)
    clear hco hst
    have hbx := Hst.out.2.2.2.1
    have m0 := hbx.at0
    have mf := hbx.fz 0 (by simp)
    have mg := hbx.1
    have Hbx := Lib.hid hbx
    clear hbx
    by_cases hlt : o.length < l.length
    case neg =>
      have hol : o.length = l.length := by omega
      have hcmp : ¬ (o.length : Int) < (l.length : Int) := by omega
      have K := Lib.hid (co_ok Hok.out (by rw [← hol]; exact Hco.out))
      have Hol := Lib.hid hol
      clear hol hq
      go_wp2_with fail
      go_ret2
      rw [K.out.1, K.out.2]
      obtain ⟨g, hg, ho⟩ := Own.of_owned Hst.out.2.1
      exact ⟨_, g, rfl, hxr, fun hn => by have := (hg hn).2; omega, ho⟩
    have hcmp : (o.length : Int) < (l.length : Int) := by omega
    have Hq := Lib.hid hq
    clear hq
    obtain ⟨x, ex⟩ : ∃ x, coNext l o = x := ⟨_, rfl⟩
    have Hx := Lib.hid ex
    have Hnx := Lib.hid ((next_names Hok.out Hix.out).trans ex)
    have Hcs := Lib.hid (coNext_cases l o)
    clear ex
    go_wp2_with fail
    refine Calls.mono (indexFunc_deeds _ l 67 _ (fun i => FreeN (nmsOf l o) (dedAt l i)) _ (Hd.out.up hxr) Tryz.call67 (fun i w' hi hxx vd vw' vc _ _ kc => impl_CitingOrder_1 (dedAt l i) vd vw' vc (w1.heap.size + 2) _ (nmsOf l o) w' ⟨(Hbx.out.ext hxx).1, (Hbx.out.ext hxx).at0⟩ (Strs.up Hst.out.2.2.1.rows hxx) kc)) ?_
    rintro e w2 ⟨rfl, hx2⟩
    rw [Hnx.out]
    by_cases hneg : x < 0
    case pos =>
      have dn : decide (x < 0) = true := decide_eq_true hneg
      have K := Lib.hid (co_stop' Hok.out hlt Hco.out (by rcases Hcs.out with ⟨t, _⟩ | ⟨j, _, t, _⟩; exact t; rw [Hx.out] at t; omega))
      go_wp2_with fail
      go_ret2
      rw [K.out.1, K.out.2]
      exact NewInts2.nil 5 (hxr.trans hx2)
    have dn : decide (x < 0) = false := decide_eq_false hneg
    obtain ⟨k, rfl, hk⟩ : ∃ k : Nat, x = (k : Int) ∧ k < l.length := by
      rcases Hcs.out with ⟨t, _⟩ | ⟨j, hj, t, _⟩
      · rw [Hx.out] at t; omega
      · exact ⟨j, by rw [← Hx.out]; exact t, hj⟩
    have hk0 : (0 : Int) ≤ (k : Int) := by omega
    have hki : (k : Int) < (l.length : Int) := by omega
    have Hst2 := Lib.hid (Hst.out.ext hx2)
    have hxw2 : Ext w w2 := hxr.trans hx2
    have hzw2 := hx2.size
    have hGr : w1.heap.size + 2 < wr.heap.size := mg
    clear m0 mf mg
    go_wp2_with (at_builtin; refine wpList_append_row _ rfl _ _ 42 rfl w1.heap.size 2 1 8 Tryz.underlying42 (by kernel_rfl) (by omega) _ o.length 1 _ rfl (.inl (row_ext Hst2.out.2.1 ((Ext.refl _).alloc _))) (.inr (by omega)) 0 _ _ (intCell [(k : Int)]) rfl ((Boxed.new w2 [.int .i64 (k : Int)] 2).row rfl (int_cells _)) (fun _ _ => rfl) (by unfold maxLen; omega) (by omega) (by simp; omega) ?_; intro v7 w7 hown7 hput7)
    have Hone := Lib.hid (CoSt.one (Hst2.out.ext ((Ext.refl _).alloc (.cells #[.int .i64 (k : Int)] 2))) hput7 (by decide) hzw hown7)
    have hz7 := hput7.size
    rw [World.size_alloc] at hz7
    have Hne := Lib.hid Hst2.out.2.2.2.2.2
    clear hown7 hput7
    obtain ⟨A7, c7, rfl⟩ := ownsRow_len Hone.out.2.1
    obtain ⟨bk, ok, vd', vw', vc', eK, _, hbk, g1, _, _, _, _, _, _, _, _, _⟩ := (Hd.out.up Hone.out.1).at_ hk
    subst eK
    have hb7 := Hone.out.2.2.2.1
    have m0 := hb7.at0
    have mf := hb7.fz 0 (by simp)
    have mg := hb7.1
    clear hb7
    have BX := Lib.hid (fun (g : Nat) (W0 X : World) (h2 : g = W0.heap.size) (hX : Ext (W0.alloc (.cells #[.string (dedAt l k).nm] 9)) X) => show Boxed X g [.string (dedAt l k).nm] from by
      subst h2
      exact (Boxed.new W0 [.string (dedAt l k).nm] 9).ext hX)
    have hGw : w.heap.size ≤ w1.heap.size + 2 := by omega
    have hTT : (2 : TypeId) ≠ 9 := by decide
    have Hn1 := Lib.hid (nmsOf_len l o)
    have hnl : (nmsOf l o).length ≤ 8 := by rw [Hn1.out]; omega
    have Hn2 := Lib.hid (show ((k : Int)).toNat = k from Int.toNat_natCast k)
    have hz1 : w1.heap.size ≤ w7.heap.size := by omega
    have dk : decide ((k : Int) < 0) = false := decide_eq_false (by omega)
    go_wp2_with fail
    go_region_law (first
      | (refine step_append_row rfl (.tmp 29) (.tmp 35) 31 rfl w1.heap.size 9 1 16 Tryz.underlying31 (by kernel_rfl) (by omega) _ (nmsOf l o).length 1 _ rfl (.inl (row_ext Hone.out.2.2.1 (by repeat (first | exact Ext.refl _ | assumption | refine Ext.alloc ?_ _ | refine Ext.drew ?_ | refine Ext.drewN ?_ _ | refine Ext.setCell ?_ (by first | (simp; done) | (simp; omega) | omega) _ | refine Ext.trans ?_ (by assumption))))) (.inr (by omega)) 0 _ _ (strCell [(dedAt l k).nm]) rfl (Boxed.row (by
          first
            | (refine BX.out _ w7 _ rfl ?_ <;> ((repeat (first | exact Ext.refl _ | assumption | refine Ext.alloc ?_ _ | refine Ext.drew ?_ | refine Ext.drewN ?_ _ | refine Ext.setCell ?_ (by first | (simp; done) | (simp; omega) | omega) _ | refine Ext.trans ?_ (by assumption))); done))
            | (refine BX.out _ w7.drew _ rfl ?_ <;> ((repeat (first | exact Ext.refl _ | assumption | refine Ext.alloc ?_ _ | refine Ext.drew ?_ | refine Ext.drewN ?_ _ | refine Ext.setCell ?_ (by first | (simp; done) | (simp; omega) | omega) _ | refine Ext.trans ?_ (by assumption))); done))) rfl (one_str _)) (fun i _ => rfl) (by unfold maxLen; omega) (by omega) (by first | exact hz1 | (simp; omega)) ?_; intro v8 w8 hown8 hput8; have Ht := Lib.hid (CoSt.two (Hone.out.1.trans (show Ext w7 _ from (by repeat (first | exact Ext.refl _ | assumption | refine Ext.alloc ?_ _ | refine Ext.drew ?_ | refine Ext.drewN ?_ _ | refine Ext.setCell ?_ (by first | (simp; done) | (simp; omega) | omega) _ | refine Ext.trans ?_ (by assumption))))) (row_ext Hone.out.2.1 (by repeat (first | exact Ext.refl _ | assumption | refine Ext.alloc ?_ _ | refine Ext.drew ?_ | refine Ext.drewN ?_ _ | refine Ext.setCell ?_ (by first | (simp; done) | (simp; omega) | omega) _ | refine Ext.trans ?_ (by assumption)))) (Hone.out.2.2.1.ext (by repeat (first | exact Ext.refl _ | assumption | refine Ext.alloc ?_ _ | refine Ext.drew ?_ | refine Ext.drewN ?_ _ | refine Ext.setCell ?_ (by first | (simp; done) | (simp; omega) | omega) _ | refine Ext.trans ?_ (by assumption)))) (Hone.out.2.2.2.1.ext (by repeat (first | exact Ext.refl _ | assumption | refine Ext.alloc ?_ _ | refine Ext.drew ?_ | refine Ext.drewN ?_ _ | refine Ext.setCell ?_ (by first | (simp; done) | (simp; omega) | omega) _ | refine Ext.trans ?_ (by assumption)))) Hone.out.2.2.2.2 Hne.out hTT hzw hGw hput8 (by rw [Hn2.out]; exact hown8)); have hb8 := Boxed.off (Boxed.ext Hone.out.2.2.2.1 (show Ext w7 _ from (by repeat (first | exact Ext.refl _ | assumption | refine Ext.alloc ?_ _ | refine Ext.drew ?_ | refine Ext.drewN ?_ _ | refine Ext.setCell ?_ (by first | (simp; done) | (simp; omega) | omega) _ | refine Ext.trans ?_ (by assumption))))) hput8.1 (fun hh => Hne.out _ hh.2.2 rfl); have p0 := hb8.at0; have pf := hb8.fz 0 (by simp); have pg := hb8.1; obtain ⟨A8, c8, rfl⟩ := ownsRow_len hown8; clear hb8 hown8 hput8))
    all_goals
      go_wp2_with fail
      go_roundg (l.length - (o.length + 1))
      case measure => have := Hq.out; omega
      case rel => exact ⟨o ++ [(k : Int)], _, by have := Hq.out; simp; omega, by rw [List.length_append, ← Hx.out]; exact coTo_go Hco.out (by rw [Hx.out]; omega), (by have t := Ht.out; rw [show (o ++ [(k : Int)]).length = o.length + 1 by simp] at t; exact t)⟩
end Go.Proofs.YtmmokjnljaifcaaGreatDoor
