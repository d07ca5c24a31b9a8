/- Plain: what the laws FnMarks and FnMarkTexts ask of what is returned. -/
import Derived.Test.YtbddkmlfjghllaaGreatDoorT1Aa
import Derived.Test.YtbddkmlfjghllaaGreatDoorT1Jp
import Derived.Test.YtbddkmlfjghllaaGreatDoorT1Lib
namespace Go.Proofs.YtbddkmlfjghllaaGreatDoor
set_option linter.unusedVariables false
set_option linter.unusedSimpArgs false

theorem md_set {l : List Nsp} (h : MksOk l) (name : ByteArray) : SetOk (mkL (mdL l name)) ∧ (mkL (mdL l name)).length ≤ 40 ∧ ∀ d, HasDay (mkL (mdL l name)) d ↔ HasDay (mdL l name) d := by
  obtain ⟨h1, h2⟩ := mdL_ok h name
  have hf : FromTo (mdL l name) := fun i hi => (h2 i hi).2.2
  obtain ⟨n1, n2⟩ := mkL_ok hf
  have hl := mkL_len (mdL l name)
  have hb := mkL_bd (a := 0) (b := 730499) hf (fun i hi => ⟨(h2 i hi).1.1, (h2 i hi).2.1.2⟩)
  refine ⟨SetD.ok ⟨n1, fun i hi => ?_⟩ (by omega), by omega, n2⟩
  have b1 := hb i hi
  have b2 := (n1 i hi).1
  unfold DayOk
  omega
/-- a mark that covers the day: its days are told and have the day -/
theorem md_has {l : List Nsp} (h : MksOk l) {name : ByteArray} {n : Int} (hx : ∃ i, i < l.length ∧ (nspAt l i).nm = name ∧ (nspAt l i).fr ≤ n ∧ n ≤ (nspAt l i).to) :
    mkdE l name = 0 ∧ SetOk (mkdL l name) ∧ HasDay (mkdL l name) n := by
  obtain ⟨h1, h2, h3⟩ := md_set h name
  obtain ⟨e1, e2⟩ := mkd_ok (name := name) h
  have hd : HasDay (mkL (mdL l name)) n := (h3 n).2 ((mdL_days l name n).2 hx)
  have hne : ¬ (mkL (mdL l name)).length = 0 := fun e => by obtain ⟨i, hi, _⟩ := hd; omega
  rw [e1, e2, if_neg hne]
  exact ⟨rfl, h1, hd⟩
/-! ### the text -/
noncomputable def mtxE (l : List Nsp) : Int := bif B (MksOk l) then 0 else 1
noncomputable def mtxB (l : List Nsp) : ByteArray := bif B (MksOk l) then byL (txL l) else ⟨#[]⟩
theorem mtx_no {l : List Nsp} (h : ¬ MksOk l) : mtxE l = 1 ∧ mtxB l = ⟨#[]⟩ := ⟨by unfold mtxE; rw [B_false h]; rfl, by unfold mtxB; rw [B_false h]; rfl⟩
theorem mtx_ok {l : List Nsp} (h : MksOk l) : mtxE l = 0 ∧ mtxB l = byL (txL l) := ⟨by unfold mtxE; rw [B_true h]; rfl, by unfold mtxB; rw [B_true h]; rfl⟩
theorem txM_len {m : Nsp} (h : NspOk m) : (txM m).length ≤ 40 := by
  obtain ⟨⟨_, h1, _⟩, h2, h3, _⟩ := h
  obtain ⟨a1, a2, _⟩ := nat_day h2
  obtain ⟨b1, b2, _⟩ := nat_day h3
  have d1 := dig_len 9 m.fr.toNat (by omega) (by omega)
  have d2 := dig_len 9 m.to.toNat (by omega) (by omega)
  have e : m.nm.data.toList.length = m.nm.size := by simp
  unfold txM dd
  simp only [List.length_append, List.length_cons]
  omega
theorem joinC_len (c : UInt8) (k : Nat) : ∀ ps : List Bs, (∀ p ∈ ps, p.length ≤ k) → (joinC c ps).length ≤ ps.length * (k + 1)
  | [], _ => by simp [joinC]
  | [p], h => by
    have := h p (by simp)
    simp [joinC]
    omega
  | p :: q :: r, h => by
    have h1 := h p (by simp)
    have h2 := joinC_len c k (q :: r) (fun x hx => h x (by simp at hx ⊢; exact .inr hx))
    have e : (p :: q :: r).length * (k + 1) = (q :: r).length * (k + 1) + (k + 1) := by
      rw [List.length_cons (a := p), Nat.succ_mul]
    rw [e]
    simp only [joinC, List.length_append, List.length_cons] at *
    omega
theorem txL_len {l : List Nsp} (h : MksOk l) : (txL l).length ≤ 2000 := by
  unfold txL
  split
  · simp
  · have h1 := joinC_len 44 40 (l.map txM) (fun p hp => by
      rw [List.mem_map] at hp
      obtain ⟨m, hm, rfl⟩ := hp
      exact txM_len (mks_all h m hm))
    rw [List.length_map] at h1
    have := h.1
    omega
theorem mtxB_size (l : List Nsp) : (mtxB l).size ≤ 2000 := by
  by_cases h : MksOk l
  · rw [(mtx_ok h).2]
    have := txL_len h
    unfold byL
    simpa [ByteArray.size] using this
  · rw [(mtx_no h).2]
    exact Nat.zero_le _
/-- what is read is told again as it was -/
theorem rd_back {s : ByteArray} (h : rmE s.data.toList = 0) : mtxE (rmL s.data.toList) = 0 ∧ mtxB (rmL s.data.toList) = s := by
  by_cases hd : s.data.toList = [45]
  · rw [hd, rm_dash.2]
    have hm : MksOk [] := ⟨by simp, fun i hi => absurd hi (by simp)⟩
    refine ⟨(mtx_ok hm).1, ?_⟩
    rw [(mtx_ok hm).2]
    exact bytes_ext (by rw [hd]; rfl)
  · by_cases hx : ∃ l, RdI s.data.toList l
    · obtain ⟨l, hl⟩ := hx
      rw [(rm_yes hd hl).2]
      obtain ⟨_, h2, h3⟩ := rd_same.1 hl
      refine ⟨(mtx_ok h2).1, ?_⟩
      rw [(mtx_ok h2).2, h3]
      exact byL_data s
    · rw [(rm_no hd (fun l hl => hx ⟨l, hl⟩)).1] at h
      exact absurd h (by decide)
/-- what is told is read back -/
theorem tx_back {l : List Nsp} (h : MksOk l) : rmE (mtxB l).data.toList = 0 ∧ rmL (mtxB l).data.toList = l := by
  rw [(mtx_ok h).2, byL_list]
  by_cases hn : l = []
  · subst hn
    exact rm_dash
  · have hr : RdS (txL l) l := ⟨by rw [splL_tx (mks_all h) hn]; exact map_prS (mks_all h), h, rfl⟩
    have hs : txL l ≠ [45] := fun e => by
      have h2 := splL_tx (mks_all h) hn
      rw [e] at h2
      have h3 : splL 44 [45] = [[45]] := by decide
      rw [h3] at h2
      cases l with
      | nil => exact hn rfl
      | cons m r =>
        simp only [List.map_cons, List.cons.injEq] at h2
        have h4 : (58 : UInt8) ∈ txM m := by unfold txM; simp
        rw [← h2.1] at h4
        simp at h4
    exact rm_yes hs (rd_same.2 hr)
theorem mtx_iff (l : List Nsp) : B (MksOk l) = decide (mtxE l = 0) := by
  by_cases h : MksOk l
  · rw [B_true h, (mtx_ok h).1]; rfl
  · rw [B_false h, (mtx_no h).1]; rfl
/-- no use is longer than the longest -/
theorem lng_best {l : List Nsp} (h : lngE l = 0) : 0 < l.length ∧ ∃ b : Nat, lngV l = (b : Int) ∧ b < l.length ∧ ∀ i, i < l.length → (nspAt l i).to - (nspAt l i).fr ≤ (nspAt l b).to - (nspAt l b).fr := by
  by_cases hm : MksOk l
  · by_cases h0 : l.length = 0
    · rw [(lng_nil hm h0).1] at h; exact absurd h (by decide)
    · refine ⟨by omega, bestI l l.length, (lng_ok hm h0).2, ?_, fun i hi => ?_⟩
      · rcases bestI_lt l l.length with t | t
        · exact t
        · omega
      · have := bestI_max l l.length i hi
        unfold Longer at this
        omega
  · rw [(lng_no hm).1] at h; exact absurd h (by decide)
end Go.Proofs.YtbddkmlfjghllaaGreatDoor
