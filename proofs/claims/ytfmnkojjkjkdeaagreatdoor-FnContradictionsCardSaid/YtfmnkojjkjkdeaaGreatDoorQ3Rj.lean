/- Memory: the region that draws a link (l18Draw, region 24): its invariant. -/
import Derived.Test.YtfmnkojjkjkdeaaGreatDoorQ3Ri
import Derived.Test.YtfmnkojjkjkdeaaGreatDoorQ3Dp
import Derived.Test.YtfmnkojjkjkdeaaGreatDoorQ3Da
namespace Go.Proofs.YtfmnkojjkjkdeaaGreatDoor
set_option linter.unusedVariables false
set_option linter.unusedSimpArgs false
open Go.RowKit

/-- a list of whole numbers that can be read -/
def Rd (w3 w : World) (n : Nat) (v : Value) : Prop := ∃ ga, v = .slice (some ⟨ga, 0, none⟩) n n ∧ w3.heap.size ≤ ga ∧ ga < w.heap.size ∧ ∃ l : List Int, l.length = n ∧ ∀ i, i < l.length → w.cell? ⟨ga, i, none⟩ = some (.int .i64 (inAt l i))
def isNum (v : Value) : Prop := ∃ r : Int, v = .int .i64 r
/-- the facts behind operation j of the region that draws a link -/
def Sw (g gN : Nat) (kv : Value) (n : Int) (w3 w : World) (v : Value) : Nat → Prop
  | 0 => v = .pointer (some ⟨gN, 1, none⟩)
  | 1 => v = kv
  | 2 => v = .pointer (some ⟨g, 0, none⟩)
  | 3 => v = .int .i64 n
  | 4 => Rd w3 w 3 v
  | 5 => isNum v
  | 6 => v = .pointer (some ⟨g, 0, none⟩)
  | 7 => Rd w3 w 2 v
  | 8 => isNum v
  | 9 => v = .pointer (some ⟨g, 0, none⟩)
  | 10 => Rd w3 w 3 v
  | 11 => isNum v
  | 12 => ∃ a b c : Int, v = .agg #[.int .i64 0, .int .i64 a, .int .i64 b, .int .i64 c]
  | 13 => ∃ (gd : Nat) (a b c : Int), v = .slice (some ⟨gd, 0, none⟩) 1 1 ∧ w3.heap.size ≤ gd ∧ Boxed w gd [.int .i64 0, .int .i64 a, .int .i64 b, .int .i64 c]
  | 15 => v = .pointer (some ⟨gN, 1, none⟩)
  | _ => True
/-- a draw out of a list that can be read -/
theorem Rd.ints {w3 w : World} {n : Nat} {v : Value} (h : Rd w3 w n v) (hn : n ≤ 4096) : ∃ l : List Int, l.length = n ∧ Ints w 0 w.heap.size v l := by
  obtain ⟨ga, rfl, h1, h2, l, h3, h4⟩ := h
  subst h3
  exact ⟨l, rfl, by unfold maxLen; omega, _, _, rfl, Nat.le_refl _, fun _ => ⟨ga, 0, rfl, Nat.zero_le _, h2, fun i hi => by
    have hi' : i < l.length := by omega
    rw [Nat.zero_add]
    exact h4 i hi'⟩⟩
theorem Rd.step {w3 w w' : World} {g n : Nat} {v : Value} (h : Rd w3 w n v) (hx : Off (One g) w w') (hg : g < w3.heap.size) : Rd w3 w' n v := by
  obtain ⟨ga, e, h1, h2, l, h3, h4⟩ := h
  have hz := hx.size
  exact ⟨ga, e, h1, by omega, l, h3, fun i hi => (hx.cell (p := ⟨ga, i, none⟩) h2 (fun hh => by have e : ga = g := hh; omega)).trans (h4 i hi)⟩
theorem Sw.step {w3 w w' : World} {g gN : Nat} {kv v : Value} {n : Int} : ∀ {j : Nat}, Sw g gN kv n w3 w v j → Off (One g) w w' → g < w3.heap.size → Sw g gN kv n w3 w' v j
  | 0, h, _, _ => h
  | 1, h, _, _ => h
  | 2, h, _, _ => h
  | 3, h, _, _ => h
  | 4, h, hx, hg => Rd.step h hx hg
  | 5, h, _, _ => h
  | 6, h, _, _ => h
  | 7, h, hx, hg => Rd.step h hx hg
  | 8, h, _, _ => h
  | 9, h, _, _ => h
  | 10, h, hx, hg => Rd.step h hx hg
  | 11, h, _, _ => h
  | 12, h, _, _ => h
  | 13, h, hx, hg => by
    obtain ⟨gd, a, b, c, e, h1, h2⟩ := h
    exact ⟨gd, a, b, c, e, h1, h2.off hx (fun hh => by have e : gd = g := hh; omega)⟩
  | 14, _, _, _ => True.intro
  | 15, h, _, _ => h
  | _ + 16, _, _, _ => True.intro
/-- the invariant of the region that draws a link -/
def In24 (b0 g : Nat) (cv : Value) (cn gN m : Nat) (sv kv : Value) (n : Int) (w3 : World) (E : Value → World → Prop) (a0 : Act) (listed : Array Bool) (a1 : Act) (w1 : World) : Prop :=
  LikeA 111 126 a0 a1 ∧
    ((listed.getD 14 false = false ∧ listed.getD 16 false = false ∧ Drw b0 g cv cn w3 w1 ∧ ∀ j, j < 16 → listed.getD j false = true → Sw g gN kv n w3 w1 (a1.eval (.tmp (111 + j))) j) ∨
     (listed.getD 14 false = true ∧ (listed.getD 15 false = true → a1.eval (.tmp 126) = .pointer (some ⟨gN, 1, none⟩)) ∧ (∃ A c, a1.eval (.tmp 125) = .slice A (m + 1) c) ∧
       ((listed.getD 16 false = false ∧ Boxed w1 gN [sv, kv] ∧ E (a1.eval (.tmp 125)) (w1.setCell ⟨gN, 1, none⟩ (a1.eval (.tmp 125)))) ∨ (listed.getD 16 false = true ∧ E (a1.eval (.tmp 125)) w1))))
theorem In24.put {b0 g cn gN m : Nat} {cv sv kv : Value} {n : Int} {w3 w1 w2 : World} {E : Value → World → Prop} {a0 a1 : Act} {listed : Array Bool} {i : Nat} {x : Value}
    (hL : LikeA 111 126 a0 a1) (hsz : a0.tmps.size = 137) (h14 : listed.getD 14 false = false) (h16 : listed.getD 16 false = false) (hF : ∀ j, j < 16 → listed.getD j false = true → Sw g gN kv n w3 w1 (a1.eval (.tmp (111 + j))) j) (hi : i < 14 ∨ i = 15)
    (hx : Off (One g) w1 w2) (hg : g < w3.heap.size) (hd : Drw b0 g cv cn w3 w2) (hn : Sw g gN kv n w3 w2 x i) : In24 b0 g cv cn gN m sv kv n w3 E a0 (listed.setIfInBounds i true) (a1.put (some (111 + i)) x) w2 := by
  refine ⟨hL.put (by omega) x, .inl ⟨get_false h14 (by omega), get_false h16 (by omega), hd, fun j hj hl => ?_⟩⟩
  by_cases e : j = i
  · subst e
    rw [eval_same (by rw [hL.2.1]; omega)]
    exact hn
  · rw [eval_other (by omega)]
    rcases set_get hl with e2 | hl
    · exact absurd e2 e
    · exact (hF j hj hl).step hx hg
/-- the store's address may come up behind the append -/
theorem In24.put15 {b0 g cn gN m : Nat} {cv sv kv : Value} {n : Int} {w3 w1 : World} {E : Value → World → Prop} {a0 a1 : Act} {listed : Array Bool} (h : In24 b0 g cv cn gN m sv kv n w3 E a0 listed a1 w1) (hsz : a0.tmps.size = 137) (hg : g < w3.heap.size) :
    In24 b0 g cv cn gN m sv kv n w3 E a0 (listed.setIfInBounds 15 true) (a1.put (some 126) (.pointer (some ⟨gN, 1, none⟩))) w1 := by
  obtain ⟨hL, h⟩ := h
  rcases h with ⟨h14, h16, hd, hF⟩ | ⟨h14, h15, h125, h16⟩
  · exact In24.put (i := 15) hL hsz h14 h16 hF (.inr rfl) (Off.refl _ _) hg hd rfl
  · refine ⟨hL.put (by omega) _, .inr ⟨set_old h14, fun _ => eval_same (by rw [hL.2.1]; omega) _, ?_, ?_⟩⟩
    · rw [eval_other (by omega)]; exact h125
    · rw [eval_other (by omega)]
      rcases h16 with ⟨a, b⟩ | ⟨a, b⟩
      · exact .inl ⟨get_false a (by omega), b⟩
      · exact .inr ⟨set_old a, b⟩
theorem Rd.of_box {w3 W : World} {ga n : Nat} (l : List Int) (h : Boxed W ga (l.map (Value.int .i64))) (hn : l.length = n) (hg : w3.heap.size ≤ ga) : Rd w3 W n (.slice (some ⟨ga, 0, none⟩) n n) := by
  refine ⟨ga, rfl, hg, h.1, l, hn, fun i hi => ?_⟩
  refine (h.2 i _ ?_).1
  rw [List.getElem?_map, List.getElem?_eq_getElem hi]
  unfold inAt
  rw [List.getD_eq_getElem?_getD, List.getElem?_eq_getElem hi]
  rfl
theorem rep_false (N j : Nat) : (Array.replicate N false).getD j false = false := by
  simp only [Array.getD_eq_getD_getElem?, Array.getElem?_replicate]
  split <;> rfl
theorem In24.start {b0 g cn gN m N : Nat} {cv sv kv : Value} {n : Int} {w3 w1 : World} {E : Value → World → Prop} {a0 : Act} (hd : Drw b0 g cv cn w3 w1) : In24 b0 g cv cn gN m sv kv n w3 E a0 (Array.replicate N false) a0 w1 :=
  ⟨LikeA.refl _ _ _, .inl ⟨rep_false _ _, rep_false _ _, hd, fun j _ hl => by rw [rep_false] at hl; cases hl⟩⟩
end Go.Proofs.YtfmnkojjkjkdeaaGreatDoor
