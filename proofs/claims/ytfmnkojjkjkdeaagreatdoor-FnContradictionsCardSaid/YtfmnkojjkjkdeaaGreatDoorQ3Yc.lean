/- Texts merged (a claim holds at most sixty files): Yc, Yd, Dl, Dm. -/
import Derived.Test.YtfmnkojjkjkdeaaGreatDoorQ3Dg
import Derived.Test.YtfmnkojjkjkdeaaGreatDoorQ3Yb
import Derived.Test.YtfmnkojjkjkdeaaGreatDoorQ3K
import Derived.Test.YtfmnkojjkjkdeaaGreatDoorQ3G
/- What calls return, in plain form: slices written out, to be read in whatever block. -/
namespace Go.Proofs.YtfmnkojjkjkdeaaGreatDoor
set_option linter.unusedVariables false
set_option linter.unusedSimpArgs false
open Go.RowKit

/-- a code as it came in -/
def Byts (w : World) (v : Value) (n : Nat) : Prop := ∃ f : Nat → Int, Row w 0 w.heap.size 1 v n (fun i => .int .u8 (f i)) ∧ ∀ i, i < n → 0 ≤ f i ∧ f i ≤ 255
theorem Byts.few {w : World} {v : Value} {n : Nat} (h : Byts w v n) (hn : n ≤ 4096) : Bytes w 0 w.heap.size v n := by
  obtain ⟨f, h1, h2⟩ := h
  exact ⟨hn, f, h1, h2⟩
theorem Byts.len {w : World} {v : Value} {n : Nat} (h : Byts w v n) : ∃ A c, v = .slice A n c := by
  obtain ⟨f, ⟨_, A, c, e, _⟩, _⟩ := h
  exact ⟨A, c, e⟩
theorem Ints.all {w : World} {lo hi : Nat} {v : Value} {l : List Int} (h : Ints w lo hi v l) (hh : hi ≤ w.heap.size) : Ints w 0 w.heap.size v l := h.mono (Nat.zero_le _) hh
theorem NetAt.all {w : World} {lo hi : Nat} {s k : Value} {n : Net} (h : NetAt w lo hi s k n) (hh : hi ≤ w.heap.size) : NetIn w s k n := ⟨h.1.mono (Nat.zero_le _) hh, h.2.mono (Nat.zero_le _) hh⟩
theorem NetIn.out2 {w : World} {s k : Value} {n : Net} (h : NetIn w s k n) : ∃ As cs Ak ck, s = .slice As n.sets.length cs ∧ k = .slice Ak n.links.length ck := by
  obtain ⟨As, cs, e1, _⟩ := h.1.len
  obtain ⟨Ak, ck, e2, _⟩ := h.2.len
  exact ⟨As, cs, Ak, ck, e1, e2⟩
theorem NewInts2.plain {l : List Int} {e0 : Int} {w w' : World} {e : Ending} (h : NewInts2 l e0 w e w') : ∃ A c, e = .returned (.tuple #[.slice A l.length c, .int .i64 e0]) ∧ Ext w w' ∧ Hid (Ints w' 0 w'.heap.size (.slice A l.length c) l) := by
  obtain ⟨v, g, he, hx, h1, h2⟩ := h
  obtain ⟨A, c, rfl⟩ := h2.len
  exact ⟨A, c, he, hx, h2.row (fun h0 => ⟨Nat.zero_le _, h2.lt h0⟩)⟩
theorem NewNet2.plain {m : Net} {c0 : Int} {w w' : World} {e : Ending} (h : NewNet2 m c0 w e w') : ∃ As cs Ak ck, e = .returned (.tuple #[.agg #[.slice As m.sets.length cs, .slice Ak m.links.length ck], .int .i64 c0]) ∧ Ext w w' ∧ Hid (NetIn w' (.slice As m.sets.length cs) (.slice Ak m.links.length ck) m) := by
  obtain ⟨s, k, he, hx, h1⟩ := h
  have h2 := h1.at_.all (Nat.le_refl _)
  obtain ⟨As, cs, Ak, ck, rfl, rfl⟩ := h2.out2
  exact ⟨As, cs, Ak, ck, he, hx, h2⟩
theorem DNet.plain {P : Net → Prop} {w w' : World} {e : Ending} (h : DNet P w e w') : ∃ As cs Ak ck n, e = .returned (.agg #[.slice As n.sets.length cs, .slice Ak n.links.length ck]) ∧ Ext w w' ∧ Few n ∧ P n ∧ Hid (NetIn w' (.slice As n.sets.length cs) (.slice Ak n.links.length ck) n) := by
  obtain ⟨s, k, n, he, hx, hf, hp, h1⟩ := h
  have h2 := h1.all (Nat.le_refl _)
  obtain ⟨As, cs, Ak, ck, rfl, rfl⟩ := h2.out2
  exact ⟨As, cs, Ak, ck, n, he, hx, hf, hp, h2⟩
theorem DNetV.plain {P : Net → Value → Prop} {w w' : World} {e : Ending} (h : DNetV P w e w') : ∃ As cs Ak ck n v, e = .returned (.tuple #[.agg #[.slice As n.sets.length cs, .slice Ak n.links.length ck], v]) ∧ Ext w w' ∧ Few n ∧ P n v ∧ Hid (NetIn w' (.slice As n.sets.length cs) (.slice Ak n.links.length ck) n) := by
  obtain ⟨s, k, v, n, he, hx, hf, hp, h1⟩ := h
  have h2 := h1.all (Nat.le_refl _)
  obtain ⟨As, cs, Ak, ck, rfl, rfl⟩ := h2.out2
  exact ⟨As, cs, Ak, ck, n, v, he, hx, hf, hp, h2⟩
theorem DNetVV.plain {P : Net → Value → Value → Prop} {w w' : World} {e : Ending} (h : DNetVV P w e w') : ∃ As cs Ak ck n v u, e = .returned (.tuple #[.agg #[.slice As n.sets.length cs, .slice Ak n.links.length ck], v, u]) ∧ Ext w w' ∧ Few n ∧ P n v u ∧ Hid (NetIn w' (.slice As n.sets.length cs) (.slice Ak n.links.length ck) n) := by
  obtain ⟨s, k, v, u, n, he, hx, hf, hp, h1⟩ := h
  have h2 := h1.all (Nat.le_refl _)
  obtain ⟨As, cs, Ak, ck, rfl, rfl⟩ := h2.out2
  exact ⟨As, cs, Ak, ck, n, v, u, he, hx, hf, hp, h2⟩
theorem DNetI.plain {w w' : World} {e : Ending} (h : DNetI w e w') : ∃ As cs Ak ck n A c l, e = .returned (.tuple #[.agg #[.slice As n.sets.length cs, .slice Ak n.links.length ck], .slice A l.length c]) ∧ Ext w w' ∧ Few n ∧ Hid (NetIn w' (.slice As n.sets.length cs) (.slice Ak n.links.length ck) n) ∧ Hid (Ints w' 0 w'.heap.size (.slice A l.length c) l) := by
  obtain ⟨s, k, v, n, l, he, hx, hf, h1, h3⟩ := h
  have h2 := h1.all (Nat.le_refl _)
  obtain ⟨As, cs, Ak, ck, rfl, rfl⟩ := h2.out2
  obtain ⟨A, c, rfl, _⟩ := h3.len
  exact ⟨As, cs, Ak, ck, n, A, c, l, he, hx, hf, h2, h3.all (Nat.le_refl _)⟩
end Go.Proofs.YtfmnkojjkjkdeaaGreatDoor

/- What draws return, in plain form. -/
namespace Go.Proofs.YtfmnkojjkjkdeaaGreatDoor
set_option linter.unusedVariables false
set_option linter.unusedSimpArgs false
open Go.RowKit

theorem DNetW.plain {w w' : World} {e : Ending} (h : DNetW w e w') : ∃ As cs Ak ck n, e = .returned (.agg #[.slice As n.sets.length cs, .slice Ak n.links.length ck]) ∧ Ext w w' ∧ Hid (NetIn w' (.slice As n.sets.length cs) (.slice Ak n.links.length ck) n) := by
  obtain ⟨s, k, n, he, hx, h1⟩ := h
  have h2 := h1.all (Nat.le_refl _)
  obtain ⟨As, cs, Ak, ck, rfl, rfl⟩ := h2.out2
  exact ⟨As, cs, Ak, ck, n, he, hx, h2⟩
theorem DNetX.plain {w w' : World} {e : Ending} (h : DNetX w e w') : ∃ As cs Ak ck n x, e = .returned (.tuple #[.agg #[.slice As n.sets.length cs, .slice Ak n.links.length ck], .int .i64 x]) ∧ Ext w w' ∧ Hid (NetIn w' (.slice As n.sets.length cs) (.slice Ak n.links.length ck) n) := by
  obtain ⟨s, k, n, x, he, hx, h1⟩ := h
  have h2 := h1.all (Nat.le_refl _)
  obtain ⟨As, cs, Ak, ck, rfl, rfl⟩ := h2.out2
  exact ⟨As, cs, Ak, ck, n, x, he, hx, h2⟩
theorem DNetXB.plain {w w' : World} {e : Ending} (h : DNetXB w e w') : ∃ As cs Ak ck n x b, e = .returned (.tuple #[.agg #[.slice As n.sets.length cs, .slice Ak n.links.length ck], .int .i64 x, .bool b]) ∧ Ext w w' ∧ Hid (NetIn w' (.slice As n.sets.length cs) (.slice Ak n.links.length ck) n) := by
  obtain ⟨s, k, n, x, b, he, hx, h1⟩ := h
  have h2 := h1.all (Nat.le_refl _)
  obtain ⟨As, cs, Ak, ck, rfl, rfl⟩ := h2.out2
  exact ⟨As, cs, Ak, ck, n, x, b, he, hx, h2⟩
end Go.Proofs.YtfmnkojjkjkdeaaGreatDoor

/- Contract: a list of statements, drawn out of a source. -/
namespace Go.Proofs.YtfmnkojjkjkdeaaGreatDoor
set_option linter.unusedVariables false
set_option linter.unusedSimpArgs false
open Go.RowKit
attribute [local go_sem] cell_onto

/-- a list that is drawn -/
def DrListQ (b0 g : Nat) (cv : Value) (cn : Nat) (w : World) (e : Ending) (w' : World) : Prop :=
  ∃ (v : Value) (l : List Int), e = .returned v ∧ Drw b0 g cv cn w w' ∧ Ints w' w.heap.size w'.heap.size v l
theorem DrListQ.fin {b0 g cn b T : Nat} {cv v : Value} {l : List Int} {w wz : World} (hd : Drw b0 g cv cn w wz) (hr : wz.ownsRow b T 1 v l.length (cellsOf (l.length * 1) (intCell l))) (hb : w.heap.size ≤ b) : DrListQ b0 g cv cn w (.returned v) wz :=
  ⟨v, l, rfl, hd, (own_ints hr rfl).mono hb (Nat.le_refl _)⟩
set_option maxRecDepth 100000 in
set_option maxHeartbeats 8000000 in
theorem spec_l21DrawList (b0 g cn lo : Nat) (cv s k : Value) (n : Net) (w : World) (h : Src b0 g cv cn w) (hn : NetAt w lo w.heap.size s k n) (hlo : g < lo) (hf : Few n) : Calls Tryz.prog 55 #[.pointer (some ⟨g, 0, none⟩), .agg #[s, k]] w (DrListQ b0 g cv cn w) := by
  obtain ⟨As, cs, rfl, _⟩ := hn.1.len
  obtain ⟨Ak, ck, rfl, _⟩ := hn.2.len
  have Hs := Lib.hid h
  have hg := h.lt
  have hf1 := hf.1
  have hf2 := hf.2.1
  obtain ⟨ct, hct⟩ : ∃ ct : Nat, ct = n.sets.length + n.links.length := ⟨_, rfl⟩
  have Hci := Lib.hid (show (n.sets.length : Int) + n.links.length = (ct : Int) from by omega)
  have hct2 : ct ≤ 16 := by omega
  clear hct
  clear h
  obtain ⟨w1, hw1⟩ : ∃ w1 : World, w1 = w.alloc (.cells #[.slice As n.sets.length cs, .slice Ak n.links.length ck] 27) := ⟨_, rfl⟩
  have hx1 : Ext w w1 := by rw [hw1]; exact (by repeat (first | exact Ext.refl _ | assumption | refine Ext.alloc ?_ _ | refine Ext.drew ?_ | refine Ext.drewN ?_ _ | refine Ext.setCell ?_ (by first | (simp; done) | (simp; omega) | omega) _ | refine Ext.trans ?_ (by assumption)))
  have hz1 : w.heap.size + 1 = w1.heap.size := by rw [hw1]; simp
  have HB1 := Lib.hid (show Boxed w1 w.heap.size [.slice As n.sets.length cs, .slice Ak n.links.length ck] from by rw [hw1]; exact Boxed.new w [.slice As n.sets.length cs, .slice Ak n.links.length ck] 27)
  have HN1 := Lib.hid ((hn.ext hx1 (Nat.le_refl _)).wide (Nat.le_refl _) hx1.size)
  have Hd1 := Lib.hid ((Drw.refl Hs.out).ext hx1)
  have Ho1 : Hid ((w1.alloc (.cells #[] 2)).ownsRow w1.heap.size 2 1 (.slice (some ⟨w1.heap.size, 0, none⟩) 0 0) 0 []) := Lib.hid (World.ownsRow_made w1 #[] 0 (Nat.le_refl _) (Nat.zero_le _) rfl)
  have Hd0 := Lib.hid (show Drw b0 g cv cn w1 (w1.alloc (.cells #[] 2)) from (Drw.refl Hd1.out.src).alloc _)
  have Hw1 := Lib.hid hw1
  clear hn hw1
  go_enter Tryz.func55, Tryz.ntmps55
  go_wp2_with fail
  rw [← Hw1.out]
  try rw [hz1]
  go_loopg [5, 6] ct (fun q u5 u6 wr => ∃ (j : Nat) (l : List Int), j + q = ct ∧ l.length ≤ j ∧ u6 = .int .i64 j ∧ Hid (Drw b0 g cv cn w1 wr) ∧ Hid (wr.ownsRow w1.heap.size 2 1 u5 l.length (cellsOf (l.length * 1) (intCell l))))
  case atStart => exact ⟨0, [], by omega, Nat.le_refl _, rfl, Hd0, Lib.hid (by simpa [cellsOf] using Ho1.out)⟩
  clear Ho1 Hd0 Hw1
  case round =>
    obtain ⟨j, l, hj, hl, rfl, Hd, Ho⟩ := hrel
    have hzr := Hd.out.size
    obtain ⟨Au, cu, rfl⟩ := ownsRow_len Ho.out
    have HBr := Lib.hid (HB1.out.drw Hd.out (by omega))
    have bb0 := HBr.out.at0
    have bb1 := HBr.out.at1
    have bbg := HBr.out.1
    have HNr := Lib.hid ((HN1.out.drw Hd.out hlo (Nat.le_refl _)).wide (Nat.le_refl _) hzr)
    go_wp2_with fail
    refine Calls.mono (spec_l21Count _ _ n _ ⟨HNr.out.1.mono (Nat.zero_le _) (Nat.le_refl _), HNr.out.2.mono (Nat.zero_le _) (Nat.le_refl _)⟩ ⟨by omega, by omega⟩) ?_
    rintro e w2 ⟨rfl, hx2⟩
    rw [Hci.out]
    have hz2 := hx2.size
    have Hd2 := Lib.hid (Hd.out.ext hx2)
    have Ho2 := Lib.hid (row_ext Ho.out hx2)
    clear hx2 bb0 bb1 bbg HBr HNr Ho Hd
    by_cases hlt : j < ct
    · have hlti : (j : Int) < (ct : Int) := by omega
      go_wp2_with fail
      refine Calls.mono (spec_l01Next _ _ cn _ 2 _ Hd2.out.src) ?_
      rintro e w3 ⟨r, rfl, -, hd3⟩
      have Hd3 := Lib.hid (Hd2.out.trans hd3)
      have Ho3 := Lib.hid (ownsRow_drw Ho2.out hd3 (by omega))
      have hz3 := hd3.size
      clear hd3 Hd2 Ho2
      by_cases z0 : r = 0
      · subst z0
        go_wp2_with (at_builtin; refine wpList_append_row _ rfl _ _ 28 rfl w1.heap.size 2 1 8 Tryz.underlying28 (by kernel_rfl) (by omega) _ l.length 1 _ rfl (.inl (row_ext Ho3.out (by repeat (first | exact Ext.refl _ | assumption | refine Ext.alloc ?_ _ | refine Ext.drew ?_ | refine Ext.drewN ?_ _ | refine Ext.setCell ?_ (by first | (simp; done) | (simp; omega) | omega) _ | refine Ext.trans ?_ (by assumption))))) (.inr (by omega)) 0 _ _ (intCell [(j : Int)]) rfl ((Boxed.new w3 [.int .i64 (j : Int)] 2).row rfl (one_int _)) (fun _ _ => rfl) (by unfold maxLen; omega) (by omega) (by simp; omega) ?_; intro v9 w9 hown9 hput9; have Hr9 := Lib.hid (intRow_push hown9); have Hd9 := Lib.hid ((Hd3.out.alloc _).put (by omega) hput9 (Nat.le_refl _)); clear hown9 hput9)
        go_roundg (ct - (j + 1))
        case measure => omega
        case rel => exact ⟨j + 1, l ++ [(j : Int)], by omega, by simp; omega, by go_num, Hd9, Hr9⟩
      · have z0' : (r == 0) = false := by simpa using z0
        go_wp2_with fail
        go_roundg (ct - (j + 1))
        case measure => omega
        case rel => exact ⟨j + 1, l, by omega, by omega, by go_num, Hd3, Ho3⟩
    · obtain rfl : j = ct := by omega
      have hlti : ¬ (j : Int) < (j : Int) := by omega
      go_wp2_with fail
      refine Calls.mono (spec_l01Next _ _ cn _ 40 _ Hd2.out.src) ?_
      rintro e w3 ⟨r, rfl, -, hd3⟩
      have Hd3 := Lib.hid (Hd2.out.trans hd3)
      have Ho3 := Lib.hid (ownsRow_drw Ho2.out hd3 (by omega))
      have hz3 := hd3.size
      clear hd3 Hd2 Ho2
      by_cases z0 : r = 0
      · subst z0
        have HB3 := Lib.hid (HB1.out.drw Hd3.out (by omega))
        have bb0 := HB3.out.at0
        have bb1 := HB3.out.at1
        have bbg := HB3.out.1
        have HN3 := Lib.hid ((HN1.out.drw Hd3.out hlo (Nat.le_refl _)).wide (Nat.le_refl _) Hd3.out.size)
        go_wp2_with fail
        refine Calls.mono (spec_l21Count _ _ n _ ⟨HN3.out.1.mono (Nat.zero_le _) (Nat.le_refl _), HN3.out.2.mono (Nat.zero_le _) (Nat.le_refl _)⟩ ⟨by omega, by omega⟩) ?_
        rintro e w4 ⟨rfl, hx4⟩
        rw [Hci.out]
        have hz4 := hx4.size
        have Hd4 := Lib.hid (Hd3.out.ext hx4)
        have Ho4 := Lib.hid (row_ext Ho3.out hx4)
        have hpk := box_pick (b0 := b0) (g := g) (cn := cn) (cv := cv) [-1, 0, (j : Int)] (Boxed.new w4 [.int .i64 (-1), .int .i64 0, .int .i64 (j : Int)] 2) (by simp) (by omega)
        have Hpk := Lib.hid hpk
        clear hpk hx4 bb0 bb1 bbg
        go_wp2_with fail
        refine Calls.mono (spec_l01Pick _ _ cn _ _ [-1, 0, (j : Int)] _ (Hd4.out.alloc _).src Hpk.out.1 (by simp) Hpk.out.2) ?_
        rintro e w5 ⟨x, rfl, -, hd5⟩
        have Hd5 := Lib.hid ((Hd4.out.alloc _).trans hd5)
        have Ho5 := Lib.hid (ownsRow_drw (row_ext Ho4.out (by repeat (first | exact Ext.refl _ | assumption | refine Ext.alloc ?_ _ | refine Ext.drew ?_ | refine Ext.drewN ?_ _ | refine Ext.setCell ?_ (by first | (simp; done) | (simp; omega) | omega) _ | refine Ext.trans ?_ (by assumption)))) hd5 (by omega))
        have hz5 := hd5.size
        rw [World.size_alloc] at hz5
        clear hd5
        go_wp2_with (at_builtin; refine wpList_append_row _ rfl _ _ 28 rfl w1.heap.size 2 1 8 Tryz.underlying28 (by kernel_rfl) (by omega) _ l.length 1 _ rfl (.inl (row_ext Ho5.out (by repeat (first | exact Ext.refl _ | assumption | refine Ext.alloc ?_ _ | refine Ext.drew ?_ | refine Ext.drewN ?_ _ | refine Ext.setCell ?_ (by first | (simp; done) | (simp; omega) | omega) _ | refine Ext.trans ?_ (by assumption))))) (.inr (by omega)) 0 _ _ (intCell [x]) rfl ((Boxed.new w5 [.int .i64 x] 2).row rfl (one_int _)) (fun _ _ => rfl) (by unfold maxLen; omega) (by omega) (by simp; omega) ?_; intro v9 w9 hown9 hput9; have Hr9 := Lib.hid (intRow_push hown9); have Hd9 := Lib.hid ((Hd5.out.alloc _).put (by omega) hput9 (Nat.le_refl _)); clear hown9 hput9)
        go_ret
        exact DrListQ.fin (Hd1.out.trans Hd9.out) Hr9.out (by omega)
      · have z0' : (r == 0) = false := by simpa using z0
        by_cases z1 : r = 1
        · subst z1
          by_cases hl0 : 0 < l.length
          · have hl0i : (0 : Int) < (l.length : Int) := by omega
            have hI := own_ints Ho3.out rfl
            obtain ⟨b, off, rfl, _, hb, hc0⟩ := hI.at_ hl0
            rw [Nat.add_zero] at hc0
            clear hI
            go_wp2_with (at_builtin; refine wpList_append_row _ rfl _ _ 28 rfl w1.heap.size 2 1 8 Tryz.underlying28 (by kernel_rfl) (by omega) _ l.length 1 _ rfl (.inl (row_ext Ho3.out (by repeat (first | exact Ext.refl _ | assumption | refine Ext.alloc ?_ _ | refine Ext.drew ?_ | refine Ext.drewN ?_ _ | refine Ext.setCell ?_ (by first | (simp; done) | (simp; omega) | omega) _ | refine Ext.trans ?_ (by assumption))))) (.inr (by omega)) 0 _ _ (intCell [(inAt l 0)]) rfl ((Boxed.new w3 [.int .i64 (inAt l 0)] 2).row rfl (one_int _)) (fun _ _ => rfl) (by unfold maxLen; omega) (by omega) (by simp; omega) ?_; intro v9 w9 hown9 hput9; have Hr9 := Lib.hid (intRow_push hown9); have Hd9 := Lib.hid ((Hd3.out.alloc _).put (by omega) hput9 (Nat.le_refl _)); clear hown9 hput9)
            go_ret
            exact DrListQ.fin (Hd1.out.trans Hd9.out) Hr9.out (by omega)
          · have hl0i : ¬ (0 : Int) < (l.length : Int) := by omega
            go_wp2_with fail
            go_ret
            exact DrListQ.fin (Hd1.out.trans Hd3.out) Ho3.out (by omega)
        · have z1' : (r == 1) = false := by simpa using z1
          go_wp2_with fail
          go_ret
          exact DrListQ.fin (Hd1.out.trans Hd3.out) Ho3.out (by omega)
end Go.Proofs.YtfmnkojjkjkdeaaGreatDoor

/- Contracts: what the layer of blame draws out of a code. -/
namespace Go.Proofs.YtfmnkojjkjkdeaaGreatDoor
set_option linter.unusedVariables false
set_option linter.unusedSimpArgs false
open Go.RowKit
attribute [local go_sem] cell_onto

set_option maxRecDepth 100000 in
set_option maxHeartbeats 4000000 in
theorem spec_DrawDisputedStatements (cn : Nat) (cv : Value) (w : World) (h : Bytes w 0 w.heap.size cv cn) : Calls Tryz.prog 14 #[cv] w (DNetW w) := by
  obtain ⟨A, c, rfl, _⟩ := h.len
  have H := Lib.hid h
  clear h
  have Hb := Lib.hid (Boxed.new w [.slice none 0 0, .slice none 0 0] 27)
  go_enter Tryz.func14, Tryz.ntmps14
  go_wp2_with fail
  refine Calls.mono (spec_l01From cn _ _ (H.out.up (by repeat (first | exact Ext.refl _ | assumption | refine Ext.alloc ?_ _ | refine Ext.drew ?_ | refine Ext.drewN ?_ _ | refine Ext.setCell ?_ (by first | (simp; done) | (simp; omega) | omega) _ | refine Ext.trans ?_ (by assumption))))) ?_
  rintro e w1 ⟨rfl, hx1, hs1⟩
  rw [World.size_alloc] at hs1
  have Hs1 := Lib.hid (hs1.low (b1 := w.heap.size) (by omega) (H.out.ext (by repeat (first | exact Ext.refl _ | assumption | refine Ext.alloc ?_ _ | refine Ext.drew ?_ | refine Ext.drewN ?_ _ | refine Ext.setCell ?_ (by first | (simp; done) | (simp; omega) | omega) _ | refine Ext.trans ?_ (by assumption))) (Nat.le_refl _)))
  have hz1 := hx1.size
  rw [World.size_alloc] at hz1
  have HB1 := Lib.hid (Hb.out.ext hx1)
  have hxw1 : Ext w w1 := (by repeat (first | exact Ext.refl _ | assumption | refine Ext.alloc ?_ _ | refine Ext.drew ?_ | refine Ext.drewN ?_ _ | refine Ext.setCell ?_ (by first | (simp; done) | (simp; omega) | omega) _ | refine Ext.trans ?_ (by assumption)))
  clear hs1
  go_wp2_with fail
  refine Calls.mono (spec_l21Draw _ _ cn _ _ Hs1.out) ?_
  rintro e w2 ⟨s, k, n, rfl, hd2, -, hN⟩
  have hxw2 := hd2.old hxw1 (by omega)
  have HN := Lib.hid hN
  have hz2 := hd2.size
  have bb := HB1.out.drw hd2 (by omega)
  have bb0 := bb.at0
  have bb1 := bb.at1
  have bbf0 := bb.fz 0 (by simp)
  have bbf1 := bb.fz 1 (by simp)
  have bbg := bb.1
  have Hbb := Lib.hid bb
  clear bb
  clear hd2 hN
  obtain ⟨As, cs, rfl, _⟩ := HN.out.1.len
  obtain ⟨Ak, ck, rfl, _⟩ := HN.out.2.len
  go_wp2_with fail
  refine bodyPost_ret (v := .agg #[.slice As n.sets.length cs, .slice Ak n.links.length ck]) (by simp [results, Tryz.results14, go_sem, *]) rfl ?_
  exact DNetW.fin hxw2 HN.out (by omega) (Nat.le_refl _)
set_option maxRecDepth 100000 in
set_option maxHeartbeats 4000000 in
theorem spec_DrawGiveUp (cn : Nat) (cv : Value) (w : World) (h : Bytes w 0 w.heap.size cv cn) : Calls Tryz.prog 62 #[cv] w (DNetI w) := by
  obtain ⟨A, c, rfl, _⟩ := h.len
  have H := Lib.hid h
  clear h
  have Hb := Lib.hid (Boxed.new w [.slice none 0 0, .slice none 0 0] 27)
  go_enter Tryz.func62, Tryz.ntmps62
  go_wp2_with fail
  refine Calls.mono (spec_l01From cn _ _ (H.out.up (by repeat (first | exact Ext.refl _ | assumption | refine Ext.alloc ?_ _ | refine Ext.drew ?_ | refine Ext.drewN ?_ _ | refine Ext.setCell ?_ (by first | (simp; done) | (simp; omega) | omega) _ | refine Ext.trans ?_ (by assumption))))) ?_
  rintro e w1 ⟨rfl, hx1, hs1⟩
  rw [World.size_alloc] at hs1
  have Hs1 := Lib.hid (hs1.low (b1 := w.heap.size) (by omega) (H.out.ext (by repeat (first | exact Ext.refl _ | assumption | refine Ext.alloc ?_ _ | refine Ext.drew ?_ | refine Ext.drewN ?_ _ | refine Ext.setCell ?_ (by first | (simp; done) | (simp; omega) | omega) _ | refine Ext.trans ?_ (by assumption))) (Nat.le_refl _)))
  have hz1 := hx1.size
  rw [World.size_alloc] at hz1
  have HB1 := Lib.hid (Hb.out.ext hx1)
  have hxw1 : Ext w w1 := (by repeat (first | exact Ext.refl _ | assumption | refine Ext.alloc ?_ _ | refine Ext.drew ?_ | refine Ext.drewN ?_ _ | refine Ext.setCell ?_ (by first | (simp; done) | (simp; omega) | omega) _ | refine Ext.trans ?_ (by assumption)))
  clear hs1
  go_wp2_with fail
  refine Calls.mono (spec_l21Draw _ _ cn _ _ Hs1.out) ?_
  rintro e w2 ⟨s, k, n, rfl, hd2, hf, hN⟩
  have hx2 := hd2.old hxw1 (by omega)
  have hz2 := hd2.size
  have hgl := Hs1.out.lt
  have hb2 := HB1.out.drw hd2 (by omega)
  have HN := Lib.hid hN
  have Hf := Lib.hid hf
  obtain ⟨As, cs, rfl, _⟩ := HN.out.1.len
  obtain ⟨Ak, ck, rfl, _⟩ := HN.out.2.len
  obtain ⟨w3, hw3⟩ : ∃ w3 : World, w3 = w2.alloc (.cells #[.slice As n.sets.length cs, .slice Ak n.links.length ck] 27) := ⟨_, rfl⟩
  have hx3 : Ext w2 w3 := by rw [hw3]; exact (by repeat (first | exact Ext.refl _ | assumption | refine Ext.alloc ?_ _ | refine Ext.drew ?_ | refine Ext.drewN ?_ _ | refine Ext.setCell ?_ (by first | (simp; done) | (simp; omega) | omega) _ | refine Ext.trans ?_ (by assumption)))
  have hz3 : w3.heap.size = w2.heap.size + 1 := by rw [hw3]; simp
  have hbn : Boxed w3 w2.heap.size [.slice As n.sets.length cs, .slice Ak n.links.length ck] := by rw [hw3]; exact Boxed.new w2 [.slice As n.sets.length cs, .slice Ak n.links.length ck] 27
  have c0 := hbn.at0
  have c1 := hbn.at1
  have hS3 := Lib.hid (hd2.src.ext hx3)
  have HN3 := Lib.hid ((HN.out.ext hx3 (Nat.le_refl _)).wide (Nat.le_refl _) hx3.size)
  have HB3 := Lib.hid (hb2.ext hx3).drew
  clear hd2 hb2 hN hbn hf
  go_wp2_with fail
  rw [← hw3]
  clear hw3
  have hqg : w.heap.size ≠ w.heap.size + 1 := by omega
  have h02 : 0 < [Value.slice none 0 0, Value.slice none 0 0].length := by simp
  have h12 : 1 < [Value.slice none 0 0, Value.slice none 0 0].length := by simp
  have hw12 : w.heap.size + 1 < w1.heap.size := by omega
  have hw1q : w.heap.size < w1.heap.size := by omega
  have hw13 : w1.heap.size ≤ w3.heap.size := by omega
  go_region_held3 (fun w' => DrwR w.heap.size (w.heap.size + 1) w.heap.size (.slice A cn c) cn w3 w' ∧ w'.cell? ⟨w2.heap.size, 0, none⟩ = some (.slice As n.sets.length cs) ∧ w'.cell? ⟨w2.heap.size, 1, none⟩ = some (.slice Ak n.links.length ck))
    (exact DrwR.keep2 (by repeat (first | exact DrwR.refl hS3.out | exact (by assumption : DrwR _ _ _ _ _ w3 _ ∧ _).1 | assumption | refine DrwR.drew ?_ | refine DrwR.alloc ?_ _ | refine DrwR.set ?_ (by omega) (by omega) _ _)) (by omega) (by omega) (by omega) c0 c1)
    (first
      | (go_at_call 55; refine Calls.mono (spec_l21DrawList _ _ cn w1.heap.size _ _ _ n _ (by assumption : DrwR _ _ _ _ _ w3 _ ∧ _).1.src ((by assumption : DrwR _ _ _ _ _ w3 _ ∧ _).1.net HN3.out hw12 hw1q) hw12 Hf.out) ?_; rintro e w5 ⟨v5, l5, rfl, hd5, hI5⟩; obtain ⟨A5, c5, rfl, _⟩ := hI5.len; have HI5 := Lib.hid (Row.mono hI5 (Nat.le_trans hw13 (by assumption : DrwR _ _ _ _ _ w3 _ ∧ _).1.size) (Nat.le_refl _)); have hD5 := (by assumption : DrwR _ _ _ _ _ w3 _ ∧ _).1.drw hd5; have hq5 := Boxed.drw (Hid.out (by assumption : Hid (Boxed _ w.heap.size [.slice none 0 0, .slice none 0 0]))) hd5 hqg; have q0 := hq5.at0; have q1 := hq5.at1; have qf0 := hq5.fz 0 h02; have qf1 := hq5.fz 1 h12; have qz := hq5.1; have Hq5 := Lib.hid hq5; clear hd5 hq5 hI5))
  have hR := (by assumption : DrwR _ _ _ _ _ w3 _ ∧ _).1
  have hE := hR.old (show Ext w w3 from hx2.trans hx3) (by omega) (Nat.le_refl _)
  have hM := (hR.net HN3.out (by omega) (by omega)).wide (show w.heap.size ≤ _ by omega) (Nat.le_refl _)
  have hO : Off (One w.heap.size) w5 ((w5.setCell ⟨w.heap.size, 0, none⟩ (.slice As n.sets.length cs)).setCell ⟨w.heap.size, 1, none⟩ (.slice Ak n.links.length ck)) := Off.setCell (S := One w.heap.size) (p := ⟨w.heap.size, 1, none⟩) (Off.setCell (S := One w.heap.size) (p := ⟨w.heap.size, 0, none⟩) (Off.refl _ _) (.inl rfl) _) (.inl rfl) _
  have hI := (Row.off HI5.out hO (fun x h1 _ hh => by have e : x = w.heap.size := hh; omega) (Nat.le_refl _)).mono (show w.heap.size ≤ _ by omega) hO.size
  go_wp2_with fail
  refine bodyPost_ret (v := .tuple #[.agg #[.slice As n.sets.length cs, .slice Ak n.links.length ck], .slice A5 l5.length c5]) (by simp [results, Tryz.results62, go_sem, *]) rfl ?_
  exact ⟨_, _, _, n, l5, rfl, hE, Hf.out, hM, hI⟩
set_option maxRecDepth 100000 in
set_option maxHeartbeats 4000000 in
theorem spec_DrawDoContradict (cn : Nat) (cv : Value) (w : World) (h : Bytes w 0 w.heap.size cv cn) : Calls Tryz.prog 11 #[cv] w (DNetI w) := by
  obtain ⟨A, c, rfl, _⟩ := h.len
  have H := Lib.hid h
  clear h
  have Hb := Lib.hid (Boxed.new w [.slice none 0 0, .slice none 0 0] 27)
  go_enter Tryz.func11, Tryz.ntmps11
  go_wp2_with fail
  refine Calls.mono (spec_DrawGiveUp cn _ _ (H.out.up (by repeat (first | exact Ext.refl _ | assumption | refine Ext.alloc ?_ _ | refine Ext.drew ?_ | refine Ext.drewN ?_ _ | refine Ext.setCell ?_ (by first | (simp; done) | (simp; omega) | omega) _ | refine Ext.trans ?_ (by assumption))))) ?_
  rintro e w2 ⟨s, k, v, n, l, rfl, hx2, hf, hN, hI⟩
  have HN := Lib.hid hN
  have HI := Lib.hid hI
  obtain ⟨As, cs, rfl, _⟩ := HN.out.1.len
  obtain ⟨Ak, ck, rfl, _⟩ := HN.out.2.len
  obtain ⟨A5, c5, rfl, _⟩ := HI.out.len
  have hz2 := hx2.size
  rw [World.size_alloc] at hz2
  have hxw2 : Ext w w2 := (by repeat (first | exact Ext.refl _ | assumption | refine Ext.alloc ?_ _ | refine Ext.drew ?_ | refine Ext.drewN ?_ _ | refine Ext.setCell ?_ (by first | (simp; done) | (simp; omega) | omega) _ | refine Ext.trans ?_ (by assumption)))
  have bb := Hb.out.ext hx2
  have bb0 := bb.at0
  have bb1 := bb.at1
  have bbf0 := bb.fz 0 (by simp)
  have bbf1 := bb.fz 1 (by simp)
  have bbg := bb.1
  rw [World.size_alloc] at hN hI
  have hO : Off (One w.heap.size) w2 ((w2.setCell ⟨w.heap.size, 0, none⟩ (.slice As n.sets.length cs)).setCell ⟨w.heap.size, 1, none⟩ (.slice Ak n.links.length ck)) := Off.setCell (S := One w.heap.size) (p := ⟨w.heap.size, 1, none⟩) (Off.setCell (S := One w.heap.size) (p := ⟨w.heap.size, 0, none⟩) (Off.refl _ _) (.inl rfl) _) (.inl rfl) _
  have hI := (Row.off hI hO (fun x h1 _ hh => by have e : x = w.heap.size := hh; omega) (Nat.le_refl _)).mono (show w.heap.size ≤ _ by omega) hO.size
  have hM := (net_store (a := .slice As n.sets.length cs) (b := .slice Ak n.links.length ck) hN (show w.heap.size < w.heap.size + 1 by omega)).wide (show w.heap.size ≤ _ by omega) (Nat.le_refl _)
  have HI2 := Lib.hid hI
  have HM2 := Lib.hid hM
  clear hI hM hN hO bb hx2
  go_wp2_with fail
  refine bodyPost_ret (v := .tuple #[.agg #[.slice As n.sets.length cs, .slice Ak n.links.length ck], .slice A5 l.length c5]) (by simp [results, Tryz.results11, go_sem, *]) rfl ?_
  exact ⟨_, _, _, n, l, rfl, (hxw2.setCell (p := ⟨w.heap.size, 0, none⟩) (Nat.le_refl _) _).setCell (p := ⟨w.heap.size, 1, none⟩) (Nat.le_refl _) _, hf, HM2.out, HI2.out⟩
end Go.Proofs.YtfmnkojjkjkdeaaGreatDoor
