/- Texts merged (a claim holds at most sixty files): Sg, Fs, Fo. -/
import Derived.Test.YtechbeegbhlppaaGreatDoorS1S
import Derived.Test.YtechbeegbhlppaaGreatDoorS1A
import Derived.Test.YtechbeegbhlppaaGreatDoorS1Bf
namespace Go.Proofs.YtechbeegbhlppaaGreatDoor
set_option linter.unusedVariables false
set_option linter.unusedSimpArgs false
open Go.RowKit
theorem Dst.ext {w w' : World} {b:Nat} {e:TypeId} {sz n:Nat} {v:Value} {xs:List Value} (h:Dst w b e sz v n xs) (hx:Ext w w'):Dst w' b e sz v n xs :=
 h.off (S:=fun _=>False) (Off.of_ext hx) (fun _ _ h=>h)
end Go.Proofs.YtechbeegbhlppaaGreatDoor
namespace Go.Proofs.YtechbeegbhlppaaGreatDoor
set_option linter.unusedVariables false
set_option linter.unusedSimpArgs false
open Go.RowKit
attribute [local go_sem] cell_onto
set_option maxHeartbeats 400000 in
theorem isNaN_int64 (x:Int) (w:World):Calls Tryz.prog 259 #[.int .i64 x] w (RetS (.bool false) w):=by
 have T:(x != x)=false:=by simp
 go_enter Tryz.func259,Tryz.ntmps259
 go_wp2_with fail
 go_ret
 exact ⟨rfl,rfl⟩
set_option maxHeartbeats 1000000 in
theorem cmp_Compare (x y:Int) (w:World):Calls Tryz.prog 222 #[.int .i64 x,.int .i64 y] w (RetS (.int .i64 (if x < y then -1 else if y < x then 1 else 0)) w):=by
 go_enter Tryz.func222,Tryz.ntmps222
 by_cases h1:x < y
 ·have T1:decide (x < y)=true:=decide_eq_true h1
  have Hv:Hid ((if x < y then (-1:Int) else if y < x then 1 else 0) = -1):=qh (by rw [if_pos h1])
  rw [Hv.out]
  go_wp2_with (go_at_call 259;refine Calls.mono (isNaN_int64 _ _) ?_;rintro e w1 ⟨rfl,rfl⟩)
  go_ret
  exact ⟨rfl,rfl⟩
 ·have T1:decide (x < y)=false:=decide_eq_false h1
  by_cases h2:y < x
  ·have T2:decide (y < x)=true:=decide_eq_true h2
   have Hv:Hid ((if x < y then (-1:Int) else if y < x then 1 else 0)=1):=qh (by rw [if_neg h1,if_pos h2])
   rw [Hv.out]
   go_wp2_with (go_at_call 259;refine Calls.mono (isNaN_int64 _ _) ?_;rintro e w1 ⟨rfl,rfl⟩)
   go_ret
   exact ⟨rfl,rfl⟩
  ·have T2:decide (y < x)=false:=decide_eq_false h2
   have Hv:Hid ((if x < y then (-1:Int) else if y < x then 1 else 0)=0):=qh (by rw [if_neg h1,if_neg h2])
   rw [Hv.out]
   go_wp2_with (go_at_call 259;refine Calls.mono (isNaN_int64 _ _) ?_;rintro e w1 ⟨rfl,rfl⟩)
   go_ret
   exact ⟨rfl,rfl⟩
end Go.Proofs.YtechbeegbhlppaaGreatDoor
