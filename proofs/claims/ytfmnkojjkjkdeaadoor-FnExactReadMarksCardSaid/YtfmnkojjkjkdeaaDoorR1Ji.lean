/- The marks that laws lay on structs of strings and numbers; MarkDays. -/
import Derived.Test.YtfmnkojjkjkdeaaDoorR1Jg
import Derived.Test.YtfmnkojjkjkdeaaDoorR1Jh
import Derived.Test.YtfmnkojjkjkdeaaDoorR1Td
import Derived.Test.YtfmnkojjkjkdeaaDoorR1E
namespace Go.Proofs.YtfmnkojjkjkdeaaDoor
set_option linter.unusedVariables false
set_option linter.unusedSimpArgs false
open Go.RowKit
attribute [local go_sem] cell_onto

/-- the text of a mark -/
def mB : ByteArray := ⟨#[109]⟩
def mkT (k : Int) : ByteArray := mB ++ decB k.toNat
theorem mkT_size (k : Int) : (mkT k).size ≤ k.toNat + 2 := by
  unfold mkT
  rw [ByteArray.size_append]
  have := decB_size k.toNat
  have e : mB.size = 1 := rfl
  omega
theorem decB_split {n : Nat} (h : ¬ n < 10) (t : ByteArray) : decB (n / 10) ++ (dgB (n % 10) ++ t) = decB n ++ t := by rw [decB_more h, ByteArray.append_assoc]
set_option maxRecDepth 100000 in
set_option maxHeartbeats 2000000 in
theorem laws_markText (k : Int) (w : World) (h0 : 0 < k) (h1 : k ≤ 2251799813685248) : Calls Tryd.prog 47 #[.int .i64 k] w (RetX (.string (mkT k)) w) := by
  obtain ⟨n, rfl⟩ := Int.eq_ofNat_of_zero_le (Int.le_of_lt h0)
  have hn0 : 0 < n := by omega
  have hn1 : n ≤ 2251799813685248 := by omega
  have Hm : Hid (mkT (n : Int) = mB ++ decB n) := Lib.hid (by unfold mkT; rw [Int.toNat_natCast])
  have d0 : decide ((n : Int) ≤ 0) = false := decide_eq_false (by omega)
  rw [Hm.out]
  go_enter Tryd.func47, Tryd.ntmps47
  go_wp2_with fail
  go_loopg [0, 3] n (fun q u0 u3 wr => ∃ (m : Nat) (t : ByteArray), m ≤ q ∧ m ≤ n ∧ u0 = .int .i64 (m : Int) ∧ u3 = .string t ∧ Ext w wr ∧ Hid (t.size ≤ 2251799813685250 - m) ∧ Hid ((0 < m → decB m ++ t = decB n) ∧ (m = 0 → t = decB n)))
  case atStart => exact ⟨n, ⟨#[]⟩, Nat.le_refl _, Nat.le_refl _, rfl, rfl, (by repeat (first | exact Ext.refl _ | assumption | refine Ext.alloc ?_ _ | refine Ext.drew ?_ | refine Ext.drewN ?_ _ | refine Ext.setCell ?_ (by first | (simp; done) | (simp; omega) | omega) _ | refine Ext.trans ?_ (by assumption))), Lib.hid (by show 0 ≤ _; omega), Lib.hid ⟨fun _ => by apply ByteArray.ext; simp, fun h => by omega⟩⟩
  case round =>
    obtain ⟨m, t, hmq, hmn, rfl, rfl, hx, Ht, Hd⟩ := hrel
    by_cases hm : 0 < m
    · have hmi : (0 : Int) < (m : Int) := by omega
      have Hwq := Lib.hid (show IntKind.i64.wrap ((m : Int) / 10) = ((m / 10 : Nat) : Int) from by rw [IntWalk.i64_in _ (by omega)]; omega)
      have hu : IntKind.u8.wrap (IntKind.i64.wrap (48 + (m : Int).tmod 10)) = 48 + ((m % 10 : Nat) : Int) := by
        rw [Int.tmod_eq_emod_of_nonneg (by omega), IntWalk.i64_in _ (by omega)]
        show (48 + (m : Int) % 10) % 256 = _
        omega
      have Hcv := Lib.hid (show ∀ (W : World) (b : Nat), W.cell? ⟨b, 0, none⟩ = some (.int .u8 (48 + (m : Int) % 10)) → (convert 89 9 (.slice (some ⟨b, 0, none⟩) 1 1)).run Tryd.prog W = .ok (.string (dgB (m % 10))) W from
        fun W b hx => run_digit (by omega) (by rw [hx]; congr 2))
      have hcv1 := Hcv.out _ _ (Boxed.new wr [.int .u8 (48 + (m : Int) % 10)] 5).at0
      have hts := Ht.out
      have hsz : ¬ 9223372036854775807 < (dgB (m % 10)).size + t.size := by rw [dgB_size]; omega
      have hsz2 : ¬ 9223372036854775806 < t.size := by omega
      clear hu hts
      go_wp2_with fail
      try rw [Hwq.out]
      go_roundg (m / 10)
      case measure => omega
      case rel =>
        refine ⟨m / 10, _, Nat.le_refl _, by omega, rfl, rfl, (by repeat (first | exact Ext.refl _ | assumption | refine Ext.alloc ?_ _ | refine Ext.drew ?_ | refine Ext.drewN ?_ _ | refine Ext.setCell ?_ (by first | (simp; done) | (simp; omega) | omega) _ | refine Ext.trans ?_ (by assumption))), Lib.hid (by have := Ht.out; rw [ByteArray.size_append, dgB_size]; omega), Lib.hid ⟨fun h => ?_, fun h => ?_⟩⟩
        · rw [decB_split (by omega)]
          exact Hd.out.1 hm
        · have h10 : m < 10 := by omega
          have := Hd.out.1 hm
          rw [decB_one h10] at this
          rw [show m % 10 = m by omega]
          exact this
    · obtain rfl : m = 0 := by omega
      have he := Hd.out.2 rfl
      have hts := Ht.out
      have hs1 : ¬ 9223372036854775807 < mB.size + t.size := by have e : mB.size = 1 := rfl; omega
      have hs2 : ¬ 9223372036854775806 < t.size := by omega
      have He := Lib.hid he
      clear he hts
      go_wp2_with fail
      go_ret
      exact ⟨by rw [← He.out]; rfl, (by repeat (first | exact Ext.refl _ | assumption | refine Ext.alloc ?_ _ | refine Ext.drew ?_ | refine Ext.drewN ?_ _ | refine Ext.setCell ?_ (by first | (simp; done) | (simp; omega) | omega) _ | refine Ext.trans ?_ (by assumption)))⟩
def nspNum (k : Int) (i : Nat) : Value := if i % 3 = 0 then .string (mkT (k + i)) else .int .i64 (k + i)
/-- what mark.. leaves of a row whose cells are told by f -/
def MarkPostK (b sz : Nat) (f : Nat → Value) (v : Value) (n : Nat) (k : Int) (w : World) (e : Ending) (w' : World) : Prop := e = .returned (.int .i64 (k + n * sz)) ∧ Off (fun x => 0 < n ∧ x = b) w w' ∧ Own w' b sz v n f
def OwnNsps (w : World) (lo hi : Nat) (v : Value) (l : List Nsp) : Prop := ∃ g, (0 < l.length → lo ≤ g ∧ g < hi) ∧ Own w g 3 v l.length (nspCell l)
def MarkedNsps (w : World) (lo hi : Nat) (v : Value) (l : List Nsp) (k : Int) : Prop := Row w lo hi 3 v l.length (nspNum k)
section
variable {w w' : World} {lo hi : Nat} {v : Value}
theorem OwnNsps.ext {l : List Nsp} (h : OwnNsps w lo hi v l) (hx : Ext w w') (hh : hi ≤ w.heap.size) : OwnNsps w' lo hi v l := by
  obtain ⟨g, h1, h2⟩ := h
  exact ⟨g, h1, h2.ext hx⟩
theorem OwnNsps.off {S : Nat → Prop} {l : List Nsp} (h : OwnNsps w lo hi v l) (hx : Off S w w') (hs : ∀ k, lo ≤ k → k < hi → ¬ S k) (hh : hi ≤ w.heap.size) : OwnNsps w' lo hi v l := by
  obtain ⟨g, h1, h2⟩ := h
  exact ⟨g, h1, h2.off hx (fun hn => hs g (h1 hn).1 (h1 hn).2)⟩
theorem OwnNsps.rows {l : List Nsp} (h : OwnNsps w lo hi v l) : Nsps w lo hi v l := by
  obtain ⟨g, h1, h2⟩ := h
  exact h2.row h1
end
theorem Own.at2 {w : World} {b sz n off c : Nat} {f : Nat → Value} (h : Own w b sz (.slice (some ⟨b, off, none⟩) n c) n f) (hn : 0 < n) : b < w.heap.size ∧ ∀ i, i < n * sz → w.cell? ⟨b, off + i, none⟩ = some (f i) ∧ w.frozen? ⟨b, off + i, none⟩ = false := by
  obtain ⟨off', e, hb, hc⟩ := h.at_ hn
  injection e with e
  injection e with _ e
  subst e
  exact ⟨hb, hc⟩
set_option maxRecDepth 100000 in
set_option maxHeartbeats 4000000 in
theorem laws_markMarkS (v : Value) (b n : Nat) (f0 : Nat → Value) (k : Int) (w : World) (h : Own w b 3 v n f0) (hn : n ≤ 1048576) (hk0 : 0 < k) (hk : k ≤ 1125899906842624) :
    Calls Tryd.prog 17 #[v, .int .i64 k] w (MarkPostK b 3 (nspNum k) v n k w) := by
  obtain ⟨A, c, rfl⟩ := h.len
  have H := Lib.hid h
  clear h
  go_enter Tryd.func17, Tryd.ntmps17
  go_wp2_with fail
  go_loopg [1, 5] n (fun q t i wr => ∃ (j : Nat) (f : Nat → Value), j + q = n ∧ i = .int .i64 j ∧ t = .int .i64 (k + (j : Int) * 3) ∧ Off (fun x => 0 < n ∧ x = b) w wr ∧ Own wr b 3 (.slice A n c) n f ∧ ∀ i, i < j * 3 → f i = nspNum k i)
  case atStart => exact ⟨0, f0, by omega, rfl, by simp, Off.refl _ _, H.out, fun i hi => absurd hi (by omega)⟩
  case round =>
    obtain ⟨j, f, hj, rfl, rfl, hx, hown, hok⟩ := hrel
    have Hok := Lib.hid hok
    clear hok
    by_cases hlt : j < n
    · obtain ⟨off, rfl, hb, _⟩ := hown.at_ (by omega)
      have Hown0 := Lib.hid hown
      have hnn : ((k + (j : Int) * 3).toNat : Int) = k + (j : Int) * 3 := by omega
      clear hown hb
      go_wp2_with fail
      refine Calls.mono (laws_markText (k + (j : Int) * 3) _ (by omega) (by omega)) ?_
      rintro e w1 ⟨rfl, hx1⟩
      have Hown := Lib.hid (Own.ext Hown0.out hx1)
      have Hx := Lib.hid (hx.trans (Off.of_ext hx1))
      obtain ⟨hb, hc⟩ := Hown.out.at2 (by omega)
      have c0 := hc (j * 3 + 0) (by omega)
      have c0a : w1.cell? ⟨b, off + j * 3, none⟩ = some (f (j * 3 + 0)) := by have := c0.1; simpa only [Nat.add_assoc, Nat.add_zero, Nat.mul_one] using this
      have c0b : w1.frozen? ⟨b, off + j * 3, none⟩ = false := by have := c0.2; simpa only [Nat.add_assoc, Nat.add_zero, Nat.mul_one] using this
      have c1 := hc (j * 3 + 1) (by omega)
      have c1a : w1.cell? ⟨b, off + j * 3 + 1, none⟩ = some (f (j * 3 + 1)) := by have := c1.1; simpa only [Nat.add_assoc] using this
      have c1b : w1.frozen? ⟨b, off + j * 3 + 1, none⟩ = false := by have := c1.2; simpa only [Nat.add_assoc] using this
      have c2 := hc (j * 3 + 2) (by omega)
      have c2a : w1.cell? ⟨b, off + j * 3 + 2, none⟩ = some (f (j * 3 + 2)) := by have := c2.1; simpa only [Nat.add_assoc] using this
      have c2b : w1.frozen? ⟨b, off + j * 3 + 2, none⟩ = false := by have := c2.2; simpa only [Nat.add_assoc] using this
      clear hc c0 c1 c2 Hown0 hx
      generalize hmt : mkT (k + (j : Int) * 3) = mt at *
      have Hmt := Lib.hid hmt
      clear hmt
      go_wp2_with fail
      go_roundg (n - (j + 1))
      case measure => omega
      case rel =>
        refine ⟨j + 1, _, by omega, by go_num, ?_, ?_, (by have := (Own.set (Own.set (Own.set Hown.out (j * 3) (.string mt) (by omega)) (j * 3 + 1) (.int .i64 (k + (j : Int) * 3 + 1)) (by omega)) (j * 3 + 2) (.int .i64 (k + (j : Int) * 3 + 1 + 1)) (by omega)); simpa only [Nat.add_assoc] using this), fun i hi => ?_⟩
        · congr 1; simp; omega
        · repeat (first | exact Hx.out | refine Off.setCell ?_ (.inl ⟨by omega, rfl⟩) _)
        by_cases e2 : i = j * 3 + 2
        · rw [if_pos e2]; unfold nspNum; rw [if_neg (by omega)]; congr 1; omega
        rw [if_neg e2]
        by_cases e1 : i = j * 3 + 1
        · rw [if_pos e1]; unfold nspNum; rw [if_neg (by omega)]; congr 1; omega
        rw [if_neg e1]
        by_cases e0 : i = j * 3
        · rw [if_pos e0]; unfold nspNum; rw [if_pos (by omega), ← Hmt.out]; congr 2; omega
        rw [if_neg e0]
        exact Hok.out i (by omega)
    · obtain rfl : j = n := by omega
      have Hown := Lib.hid hown
      clear hown
      go_wp2_with fail
      go_ret
      exact ⟨by first | rfl | simp, hx, Hown.out.congr Hok.out⟩
set_option maxRecDepth 100000 in
set_option maxHeartbeats 4000000 in
theorem laws_heldMarkS (v : Value) (lo hi n : Nat) (k : Int) (w : World) (h : Row w lo hi 3 v n (nspNum k)) (hh : hi ≤ w.heap.size) (hn : n ≤ 1048576) (hk0 : 0 < k) (hk : k ≤ 1125899906842624) :
    Calls Tryd.prog 22 #[v, .int .i64 k] w (RetX (.int .i64 (k + n * 3)) w) := by
  obtain ⟨_, A, c, rfl, hc0, hr⟩ := h
  have Hr := Lib.hid hr
  clear hr
  go_enter Tryd.func22, Tryd.ntmps22
  go_wp2_with fail
  go_loopg [1, 5] n (fun q t i wr => ∃ (j : Nat), j + q = n ∧ i = .int .i64 j ∧ t = .int .i64 (k + (j : Int) * 3) ∧ Ext w wr)
  case atStart => exact ⟨0, by omega, rfl, by simp, (by repeat (first | exact Ext.refl _ | assumption | refine Ext.alloc ?_ _ | refine Ext.drew ?_ | refine Ext.drewN ?_ _ | refine Ext.setCell ?_ (by first | (simp; done) | (simp; omega) | omega) _ | refine Ext.trans ?_ (by assumption)))⟩
  case round =>
    obtain ⟨j, hj, rfl, rfl, hx⟩ := hrel
    by_cases hlt : j < n
    · obtain ⟨b, off, rfl, _, hb', hc⟩ := Hr.out (by omega)
      have hb : b < w.heap.size := by omega
      have hbr : b < wr.heap.size := Nat.lt_of_lt_of_le hb hx.size
      have Hc := Lib.hid (fun (W : World) (hX : Ext w W) => show W.cell? ⟨b, off + j * 3, none⟩ = some (.string (mkT (k + (j : Int) * 3))) ∧ W.cell? ⟨b, off + j * 3 + 1, none⟩ = some (.int .i64 (k + (j : Int) * 3 + 1)) ∧ W.cell? ⟨b, off + j * 3 + 2, none⟩ = some (.int .i64 (k + (j : Int) * 3 + 1 + 1)) from by
        refine ⟨?_, ?_, ?_⟩
        · rw [hX.cell (p := ⟨b, off + j * 3, none⟩) hb, hc (j * 3) (by omega)]; unfold nspNum; rw [if_pos (by omega)]; congr 3 <;> omega
        · rw [Nat.add_assoc, hX.cell (p := ⟨b, off + (j * 3 + 1), none⟩) hb, hc (j * 3 + 1) (by omega)]; unfold nspNum; rw [if_neg (by omega)]; congr 2; omega
        · rw [Nat.add_assoc, hX.cell (p := ⟨b, off + (j * 3 + 2), none⟩) hb, hc (j * 3 + 2) (by omega)]; unfold nspNum; rw [if_neg (by omega)]; congr 2; omega)
      obtain ⟨c0, c1, c2⟩ := Hc.out wr hx
      have Hmt := Lib.hid (fun (W : World) => laws_markText (k + (j : Int) * 3) W (by omega) (by omega))
      clear hc
      generalize mkT (k + (j : Int) * 3) = mt at *
      have T0 := str_same mt
      go_wp2_with fail
      (refine wp_region_onto prog_mixed (by kernel_rfl) ?_; (repeat (go_big_quiet_step ((go_at_call 47; exact onto_callX (Hmt.out _))))); refine onto_end ?_; intro w1 hx1)
      obtain ⟨d0, d1, d2⟩ := Hc.out w1 (hx.trans hx1)
      have hbr1 : b < w1.heap.size := Nat.lt_of_lt_of_le hbr hx1.size
      clear c0 c1 c2 d0
      go_wp2_with fail
      go_roundg (n - (j + 1))
      case measure => omega
      case rel => exact ⟨j + 1, by omega, by go_num, by congr 1; simp; omega, (by repeat (first | exact Ext.refl _ | assumption | refine Ext.alloc ?_ _ | refine Ext.drew ?_ | refine Ext.drewN ?_ _ | refine Ext.setCell ?_ (by first | (simp; done) | (simp; omega) | omega) _ | refine Ext.trans ?_ (by assumption)))⟩
    · obtain rfl : j = n := by omega
      go_wp2_with fail
      go_ret
      exact ⟨rfl, (by repeat (first | exact Ext.refl _ | assumption | refine Ext.alloc ?_ _ | refine Ext.drew ?_ | refine Ext.drewN ?_ _ | refine Ext.setCell ?_ (by first | (simp; done) | (simp; omega) | omega) _ | refine Ext.trans ?_ (by assumption)))⟩
theorem markNsps (v : Value) (lo hi : Nat) (l : List Nsp) (k : Int) (w : World) (h : OwnNsps w lo hi v l) (hn : l.length ≤ 1048576) (hk0 : 0 < k) (hk : k ≤ 562949953421312) :
    Calls Tryd.prog 17 #[v, .int .i64 k] w (MarkP lo hi (k + l.length * 3) (fun w' => MarkedNsps w' lo hi v l k) w) := by
  obtain ⟨g, h1, h2⟩ := h
  refine Calls.mono (laws_markMarkS v g _ _ k w h2 hn hk0 (by omega)) ?_
  rintro e w1 ⟨rfl, hx1, hm1⟩
  exact ⟨rfl, hx1.mono (fun x hx => by have := h1 hx.1; have := hx.2; omega), hm1.row h1⟩
end Go.Proofs.YtfmnkojjkjkdeaaDoor
