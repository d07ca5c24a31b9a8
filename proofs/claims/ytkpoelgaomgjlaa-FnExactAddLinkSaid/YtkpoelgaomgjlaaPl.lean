/- How a link, handed in by value, reads. -/
import Derived.Test.YtkpoelgaomgjlaaPost
namespace Go.Proofs.Ytkpoelgaomgjlaa
set_option linter.unusedVariables false
set_option linter.unusedSimpArgs false
open Go.RowKit Go.ChangeShapes Go.WideShapes Go.Deep Go.Joins

set_option maxRecDepth 100000 in
/-- laws.Link, by value -/
theorem open_link_arg {H : Type} {enc : TypeId × Value → H} {w : World} {base b0 : Nat} {spare : Nat → Bool} {held : Bool} {r : Reach} {v : Value} {d : DataW H} {p : List MemPlace}
    (hv : Value.okWide Try.prog w r b0 45 v) (h : DataW.Trod enc Try.prog w base spare held 45 v d p) :
    ∃ a b c d : Int, v = .agg #[.int .i64 a, .int .i64 b, .int .i64 c, .int .i64 d] := by
  obtain ⟨v0, v1, v2, v3, y0, y1, y2, y3, m, rfl, _, _, h0, h1, h2, h3⟩ := open_agg4 Try.underlying45 (by kernel_rfl) (by kernel_rfl) hv h
  obtain ⟨z0, e0, _, _⟩ := DataW.trod_int (Try.oneInt _ rfl) h0
  obtain ⟨z1, e1, _, _⟩ := DataW.trod_int (Try.oneInt _ rfl) h1
  obtain ⟨z2, e2, _, _⟩ := DataW.trod_int (Try.oneInt _ rfl) h2
  obtain ⟨z3, e3, _, _⟩ := DataW.trod_int (Try.oneInt _ rfl) h3
  simp only [List.cons.injEq, and_true] at e0 e1 e2 e3
  subst e0 e1 e2 e3
  exact ⟨z0, z1, z2, z3, rfl⟩
end Go.Proofs.Ytkpoelgaomgjlaa
