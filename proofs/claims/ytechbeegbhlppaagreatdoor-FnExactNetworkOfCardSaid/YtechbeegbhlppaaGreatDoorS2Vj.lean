/- Texts merged (a claim holds at most sixty files): Vj, Vk, Vq, Vr, Vo, Vs, Vt, Vu. -/
import Derived.Test.YtechbeegbhlppaaGreatDoorS2Vf
namespace Go.Proofs.YtechbeegbhlppaaGreatDoor
set_option linter.unusedVariables false
set_option linter.unusedSimpArgs false
open Go.RowKit
attribute [local go_sem] cell_onto
theorem fm_at {fe:Int} (h:0 ≤ fe∧fe ≤ 13):fmL[fe.toNat]? = some (.int .i64 (fxM fe))∧fdL[fe.toNat]? = some (.int .i64 (fxD fe)):=by
 have:fe=0 ∨ fe=1 ∨ fe=2 ∨ fe=3 ∨ fe=4 ∨ fe=5 ∨ fe=6 ∨ fe=7 ∨ fe=8 ∨ fe=9 ∨ fe=10 ∨ fe=11 ∨ fe=12 ∨ fe=13:=by omega
 rcases this with rfl | rfl | rfl | rfl | rfl | rfl | rfl | rfl | rfl | rfl | rfl | rfl | rfl | rfl <;> exact ⟨rfl,rfl⟩
theorem mv_at {fe:Int} (h:14 ≤ fe∧fe ≤ 19):mvL[(fe - 14).toNat]? = some (.int .i64 (mvD fe)):=by
 have:fe=14 ∨ fe=15 ∨ fe=16 ∨ fe=17 ∨ fe=18 ∨ fe=19:=by omega
 rcases this with rfl | rfl | rfl | rfl | rfl | rfl <;> rfl
set_option maxRecDepth 100000 in
set_option maxHeartbeats 4000000 in
theorem spec_l05Day_fix (fe y:Int) (hf:0 ≤ fe∧fe ≤ 13) (h:1 ≤ y∧y ≤ 2000) (w:World):Calls Tryz.prog 288 #[.int .i64 fe,.int .i64 y] w (RetX (.int .i64 (fstO fe y)) w):=by
 have Hh:=qh (show 1 ≤ y∧y ≤ 5000 by omega)
 have Hf:=qh (fst_bd (show 0 ≤ fe∧fe ≤ 19 by omega))
 have E:Hid (numO y (fxM fe) (fxD fe)=fstO fe y):=qh (by unfold fstO;rw [if_pos (by omega)])
 have k1:=(((Boxed.new w fmL 2).ext ((Ext.refl _).alloc (.cells fdL.toArray 2))).2 fe.toNat _ (fm_at hf).1).1
 have k2:((w.alloc (.cells fmL.toArray 2)).alloc (.cells fdL.toArray 2)).cell? ⟨w.heap.size+1,fe.toNat,none⟩=some (.int .i64 (fxD fe)):=by
  have h:=(Boxed.new (w.alloc (.cells fmL.toArray 2)) fdL 2).2 fe.toNat _ (fm_at hf).2
  rw [World.size_alloc] at h
  exact h.1
 have h0:0 ≤ fe:=hf.1
 have h14:fe < 14:=by omega
 have d14:decide (fe < 14)=true:=decide_eq_true h14
 simp only [fmL,fdL,List.size_toArray] at k1 k2
 clear h hf
 go_enter Tryz.func288,Tryz.ntmps288
 go_wp2_with fail
 (refine wp_region_onto prog_mixed (by kernel_rfl) ?_;(repeat (go_big_quiet_step (((go_at_call 291;with_reducible exact onto_callX (spec_l01Number y (fxM fe) (fxD fe) Hh.out (by have:=Hf.out;omega) (by have:=Hf.out;omega) _))))));refine onto_end ?_;intro w1 hx1)
 rw [E.out]
 go_wp2_with fail
 go_ret
 exact ⟨rfl,exts⟩
set_option maxRecDepth 100000 in
set_option maxHeartbeats 4000000 in
theorem spec_l05Day_mov (fe y:Int) (hf:14 ≤ fe∧fe ≤ 19) (h:1 ≤ y∧y ≤ 2000) (w:World):Calls Tryz.prog 288 #[.int .i64 fe,.int .i64 y] w (RetX (.int .i64 (fstO fe y)) w):=by
 have Hh:=qh (show 1 ≤ y∧y ≤ 5000 by omega)
 have He:=qh (eas_small (show 1 ≤ y by omega) (show y ≤ 5000 by omega))
 have Hm:=qh (eas_md (show 1 ≤ y by omega))
 have Hf:=qh (fst_bd (show 0 ≤ fe∧fe ≤ 19 by omega))
 have E:Hid (easO y+mvD fe=fstO fe y):=qh (by unfold fstO;rw [if_neg (by omega)])
 have W1:IntKind.i64.wrap (easO y+mvD fe)=easO y+mvD fe:=IntWalk.i64_in _ (by have:=He.out;have:=Hf.out;omega)
 have W2:wrap64 (easO y+mvD fe)=easO y+mvD fe:=IntWalk.wrap64_in _ (by have:=He.out;have:=Hf.out;omega)
 have W4:IntKind.i64.wrap (fe - 14)=fe - 14:=IntWalk.i64_in _ (by omega)
 have W5:wrap64 (fe - 14)=fe - 14:=IntWalk.wrap64_in _ (by omega)
 have BX:=qh (fun (W0 W:World) (hX:Ext (W0.alloc (.cells mvL.toArray 2)) W)=>show W.cell? ⟨W0.heap.size,(fe - 14).toNat,none⟩=some (.int .i64 (mvD fe)) from (((Boxed.new W0 mvL 2).ext hX).2 _ _ (mv_at hf)).1)
 have q0:=BX.out (((w.alloc (.cells fmL.toArray 2)).alloc (.cells fdL.toArray 2)).drew) _ (Ext.refl _)
 simp [fmL,fdL,mvL] at q0
 have BY:=qh (fun (W:World) (hX:Ext ((((w.alloc (.cells fmL.toArray 2)).alloc (.cells fdL.toArray 2)).drew).alloc (.cells mvL.toArray 2)) W)=>show W.cell? ⟨w.heap.size+1+1,(fe - 14).toNat,none⟩=some (.int .i64 (mvD fe)) from by
  have h:=BX.out _ _ hX
  simp only [World.size_alloc,World.size_drew] at h
  exact h)
 have G:∀ h:(fe - 14).toNat < mvL.length,mvL[(fe - 14).toNat]'h=.int .i64 (mvD fe):=fun h=>(List.getElem?_eq_some_iff.1 (mv_at hf)).2
 have G2:∀ h:(fe - 14).toNat < mvL.toArray.size,mvL.toArray[(fe - 14).toNat]'h=.int .i64 (mvD fe):=fun h=>(List.getElem?_eq_some_iff.1 (mv_at hf)).2
 simp only [mvL] at G G2
 have h0:0 ≤ fe - 14:=by omega
 have h6:fe - 14 < 6:=by omega
 have h14:¬ fe < 14:=by omega
 have d14:decide (fe < 14)=false:=decide_eq_false h14
 clear hf h
 go_enter Tryz.func288,Tryz.ntmps288
 go_wp2_with fail
 go_region_law (first
  | (go_simp;go_at_call 320;refine Calls.mono (spec_l04Old y Hh.out _) ?_;rintro e w1 ⟨rfl,hx1⟩;simp only [easV];have q1:=BX.out w1 _ (Ext.refl _);(try (have q2:=BY.out _ hx1)))
  | (go_simp;go_at_call 291;refine Calls.mono (spec_l01Number y ((easS y).tdiv 31) ((easS y).tmod 31+1) Hh.out (by have:=Hm.out;omega) (by have:=Hm.out;omega) _) ?_;rintro e w2 ⟨rfl,hx2⟩;rw [show numO y ((easS y).tdiv 31) ((easS y).tmod 31+1)=easO y from rfl];have q3:=BX.out w2 _ (Ext.refl _);(try (have q4:=BX.out _ _ hx2));(try (have q5:=BY.out _ (hx1.trans hx2)))))
 all_goals
  go_wp2_with fail
  go_ret
  exact ⟨ret_int E.out,exts⟩
theorem spec_l05Day (fe y:Int) (hf:0 ≤ fe∧fe ≤ 19) (h:1 ≤ y∧y ≤ 2000) (w:World):Calls Tryz.prog 288 #[.int .i64 fe,.int .i64 y] w (RetX (.int .i64 (fstO fe y)) w):=by
 by_cases h14:fe < 14
 ·exact spec_l05Day_fix fe y (by omega) h w
 ·exact spec_l05Day_mov fe y (by omega) h w
theorem re_cases {r:Int} (h:0 ≤ r∧r ≤ 4):r=0 ∨ r=1 ∨ r=2 ∨ r=3 ∨ r=4:=by omega
set_option maxRecDepth 100000 in
set_option maxHeartbeats 4000000 in
theorem impl_relatedDay (fe re wd y:Int) (hf:0 ≤ fe∧fe ≤ 19) (hr:0 ≤ re∧re ≤ 4) (hw:0 ≤ wd∧wd ≤ 6) (h:1 ≤ y∧y ≤ 2000) (w:World):Calls Tryz.prog 209 #[.int .i64 fe,.int .i64 re,.int .i64 wd,.int .i64 y] w (RetX (.int .i64 (relO fe re wd y)) w):=by
 have Hd:=qh (impl_feastDay fe y hf h)
 have Hs:=qh (fst_small hf h.1 (show y ≤ 5000 by omega))
 have Hw:=qh hw
 obtain ⟨f,ef⟩:∃ f,fstO fe y=f:=⟨_,rfl⟩
 have Hrel:=qh (show relO fe re wd y=if re=1 then f - 1 else if re=2 then f+7 else if re=3 then f+1+(wd - wdO f+13).tmod 7 else if re=4 then f - 1 - (wdO f - wd+13).tmod 7 else f from by rw [← ef];rfl)
 rw [ef] at Hd Hs
 clear hf h ef hw
 rcases re_cases hr with rfl | rfl | rfl | rfl | rfl
 all_goals clear hr
 ·have E:Hid (relO fe 0 wd y=f):=Hrel
  have hs:=Hs.out
  have hw:=Hw.out
  have hd:=wd_bd (show 0 ≤ f by omega)
  have hm3:0 ≤ (wd - wdO f+13).tmod 7∧(wd - wdO f+13).tmod 7 ≤ 6:=by rw [tmod_pos (by omega)];omega
  have hm4:0 ≤ (wdO f - wd+13).tmod 7∧(wdO f - wd+13).tmod 7 ≤ 6:=by rw [tmod_pos (by omega)];omega
  clear hs hw hd hm3 hm4
  rw [E.out]
  clear E Hrel
  go_enter Tryz.func209,Tryz.ntmps209
  go_wp2_with fail
  refine Calls.mono (Hd.out _) ?_
  rintro e w1 ⟨rfl,hx1⟩
  go_wp2_with fail
  go_ret
  exact ⟨rfl,hx1⟩
 ·have E:Hid (relO fe 1 wd y=f - 1):=Hrel
  have hs:=Hs.out
  have hw:=Hw.out
  have hd:=wd_bd (show 0 ≤ f by omega)
  have hm3:0 ≤ (wd - wdO f+13).tmod 7∧(wd - wdO f+13).tmod 7 ≤ 6:=by rw [tmod_pos (by omega)];omega
  have hm4:0 ≤ (wdO f - wd+13).tmod 7∧(wdO f - wd+13).tmod 7 ≤ 6:=by rw [tmod_pos (by omega)];omega
  have x1a:IntKind.i64.wrap (f - 1)=f - 1:=IntWalk.i64_in _ (by omega)
  have x1b:wrap64 (f - 1)=f - 1:=IntWalk.wrap64_in _ (by omega)
  clear hs hw hd hm3 hm4
  rw [E.out]
  clear E Hrel
  go_enter Tryz.func209,Tryz.ntmps209
  go_wp2_with fail
  refine Calls.mono (Hd.out _) ?_
  rintro e w1 ⟨rfl,hx1⟩
  go_wp2_with fail
  go_ret
  exact ⟨rfl,hx1⟩
 ·have E:Hid (relO fe 2 wd y=f+7):=Hrel
  have hs:=Hs.out
  have hw:=Hw.out
  have hd:=wd_bd (show 0 ≤ f by omega)
  have hm3:0 ≤ (wd - wdO f+13).tmod 7∧(wd - wdO f+13).tmod 7 ≤ 6:=by rw [tmod_pos (by omega)];omega
  have hm4:0 ≤ (wdO f - wd+13).tmod 7∧(wdO f - wd+13).tmod 7 ≤ 6:=by rw [tmod_pos (by omega)];omega
  have x2a:IntKind.i64.wrap (f+7)=f+7:=IntWalk.i64_in _ (by omega)
  have x2b:wrap64 (f+7)=f+7:=IntWalk.wrap64_in _ (by omega)
  clear hs hw hd hm3 hm4
  rw [E.out]
  clear E Hrel
  go_enter Tryz.func209,Tryz.ntmps209
  go_wp2_with fail
  refine Calls.mono (Hd.out _) ?_
  rintro e w1 ⟨rfl,hx1⟩
  go_wp2_with fail
  go_ret
  exact ⟨rfl,hx1⟩
 ·have E:Hid (relO fe 3 wd y=f+1+(wd - wdO f+13).tmod 7):=Hrel
  have hs:=Hs.out
  have hw:=Hw.out
  have hd:=wd_bd (show 0 ≤ f by omega)
  have hm3:0 ≤ (wd - wdO f+13).tmod 7∧(wd - wdO f+13).tmod 7 ≤ 6:=by rw [tmod_pos (by omega)];omega
  have hm4:0 ≤ (wdO f - wd+13).tmod 7∧(wdO f - wd+13).tmod 7 ≤ 6:=by rw [tmod_pos (by omega)];omega
  have x3a:IntKind.i64.wrap (f+1)=f+1:=IntWalk.i64_in _ (by omega)
  have x3b:wrap64 (f+1)=f+1:=IntWalk.wrap64_in _ (by omega)
  have x4a:IntKind.i64.wrap (wd - wdO f)=wd - wdO f:=IntWalk.i64_in _ (by omega)
  have x4b:wrap64 (wd - wdO f)=wd - wdO f:=IntWalk.wrap64_in _ (by omega)
  have x5a:IntKind.i64.wrap (wd - wdO f+13)=wd - wdO f+13:=IntWalk.i64_in _ (by omega)
  have x5b:wrap64 (wd - wdO f+13)=wd - wdO f+13:=IntWalk.wrap64_in _ (by omega)
  have x6a:IntKind.i64.wrap (f+1+(wd - wdO f+13).tmod 7)=f+1+(wd - wdO f+13).tmod 7:=IntWalk.i64_in _ (by omega)
  have x6b:wrap64 (f+1+(wd - wdO f+13).tmod 7)=f+1+(wd - wdO f+13).tmod 7:=IntWalk.wrap64_in _ (by omega)
  clear hs hw hd hm3 hm4
  rw [E.out]
  clear E Hrel
  go_enter Tryz.func209,Tryz.ntmps209
  go_wp2_with fail
  refine Calls.mono (Hd.out _) ?_
  rintro e w1 ⟨rfl,hx1⟩
  go_wp2_with fail
  refine Calls.mono (impl_weekdayOf f (by have:=Hs.out;omega) _) ?_
  rintro e w2 ⟨rfl,rfl⟩
  go_wp2_with fail
  go_ret
  exact ⟨rfl,hx1⟩
 ·have E:Hid (relO fe 4 wd y=f - 1 - (wdO f - wd+13).tmod 7):=Hrel
  have hs:=Hs.out
  have hw:=Hw.out
  have hd:=wd_bd (show 0 ≤ f by omega)
  have hm3:0 ≤ (wd - wdO f+13).tmod 7∧(wd - wdO f+13).tmod 7 ≤ 6:=by rw [tmod_pos (by omega)];omega
  have hm4:0 ≤ (wdO f - wd+13).tmod 7∧(wdO f - wd+13).tmod 7 ≤ 6:=by rw [tmod_pos (by omega)];omega
  have x7a:IntKind.i64.wrap (f - 1)=f - 1:=IntWalk.i64_in _ (by omega)
  have x7b:wrap64 (f - 1)=f - 1:=IntWalk.wrap64_in _ (by omega)
  have x8a:IntKind.i64.wrap (wdO f - wd)=wdO f - wd:=IntWalk.i64_in _ (by omega)
  have x8b:wrap64 (wdO f - wd)=wdO f - wd:=IntWalk.wrap64_in _ (by omega)
  have x9a:IntKind.i64.wrap (wdO f - wd+13)=wdO f - wd+13:=IntWalk.i64_in _ (by omega)
  have x9b:wrap64 (wdO f - wd+13)=wdO f - wd+13:=IntWalk.wrap64_in _ (by omega)
  have x10a:IntKind.i64.wrap (f - 1 - (wdO f - wd+13).tmod 7)=f - 1 - (wdO f - wd+13).tmod 7:=IntWalk.i64_in _ (by omega)
  have x10b:wrap64 (f - 1 - (wdO f - wd+13).tmod 7)=f - 1 - (wdO f - wd+13).tmod 7:=IntWalk.wrap64_in _ (by omega)
  clear hs hw hd hm3 hm4
  rw [E.out]
  clear E Hrel
  go_enter Tryz.func209,Tryz.ntmps209
  go_wp2_with fail
  refine Calls.mono (Hd.out _) ?_
  rintro e w1 ⟨rfl,hx1⟩
  go_wp2_with fail
  refine Calls.mono (impl_weekdayOf f (by have:=Hs.out;omega) _) ?_
  rintro e w2 ⟨rfl,rfl⟩
  go_wp2_with fail
  go_ret
  exact ⟨rfl,hx1⟩
set_option maxRecDepth 100000 in
set_option maxHeartbeats 4000000 in
theorem spec_l05Related (fe re wd y:Int) (hf:0 ≤ fe∧fe ≤ 19) (hr:0 ≤ re∧re ≤ 4) (hw:0 ≤ wd∧wd ≤ 6) (h:1 ≤ y∧y ≤ 2000) (w:World):Calls Tryz.prog 241 #[.int .i64 fe,.int .i64 re,.int .i64 wd,.int .i64 y] w (RetX (.int .i64 (relO fe re wd y)) w):=by
 have Hd:=qh (spec_l05Day fe y hf h)
 have Hs:=qh (fst_small hf h.1 (show y ≤ 5000 by omega))
 have Hw:=qh hw
 obtain ⟨f,ef⟩:∃ f,fstO fe y=f:=⟨_,rfl⟩
 have Hrel:=qh (show relO fe re wd y=if re=1 then f - 1 else if re=2 then f+7 else if re=3 then f+1+(wd - wdO f+13).tmod 7 else if re=4 then f - 1 - (wdO f - wd+13).tmod 7 else f from by rw [← ef];rfl)
 rw [ef] at Hd Hs
 clear hf h ef hw
 rcases re_cases hr with rfl | rfl | rfl | rfl | rfl
 all_goals clear hr
 ·have E:Hid (relO fe 0 wd y=f):=Hrel
  have hs:=Hs.out
  have hw:=Hw.out
  have hd:=wd_bd (show 0 ≤ f by omega)
  have hm3:0 ≤ (wd - wdO f+13).tmod 7∧(wd - wdO f+13).tmod 7 ≤ 6:=by rw [tmod_pos (by omega)];omega
  have hm4:0 ≤ (wdO f - wd+13).tmod 7∧(wdO f - wd+13).tmod 7 ≤ 6:=by rw [tmod_pos (by omega)];omega
  clear hs hw hd hm3 hm4
  rw [E.out]
  clear E Hrel
  go_enter Tryz.func241,Tryz.ntmps241
  go_wp2_with fail
  refine Calls.mono (Hd.out _) ?_
  rintro e w1 ⟨rfl,hx1⟩
  go_wp2_with fail
  go_ret
  exact ⟨rfl,hx1⟩
 ·have E:Hid (relO fe 1 wd y=f - 1):=Hrel
  have hs:=Hs.out
  have hw:=Hw.out
  have hd:=wd_bd (show 0 ≤ f by omega)
  have hm3:0 ≤ (wd - wdO f+13).tmod 7∧(wd - wdO f+13).tmod 7 ≤ 6:=by rw [tmod_pos (by omega)];omega
  have hm4:0 ≤ (wdO f - wd+13).tmod 7∧(wdO f - wd+13).tmod 7 ≤ 6:=by rw [tmod_pos (by omega)];omega
  have x11a:IntKind.i64.wrap (f - 1)=f - 1:=IntWalk.i64_in _ (by omega)
  have x11b:wrap64 (f - 1)=f - 1:=IntWalk.wrap64_in _ (by omega)
  clear hs hw hd hm3 hm4
  rw [E.out]
  clear E Hrel
  go_enter Tryz.func241,Tryz.ntmps241
  go_wp2_with fail
  refine Calls.mono (Hd.out _) ?_
  rintro e w1 ⟨rfl,hx1⟩
  go_wp2_with fail
  go_ret
  exact ⟨rfl,hx1⟩
 ·have E:Hid (relO fe 2 wd y=f+7):=Hrel
  have hs:=Hs.out
  have hw:=Hw.out
  have hd:=wd_bd (show 0 ≤ f by omega)
  have hm3:0 ≤ (wd - wdO f+13).tmod 7∧(wd - wdO f+13).tmod 7 ≤ 6:=by rw [tmod_pos (by omega)];omega
  have hm4:0 ≤ (wdO f - wd+13).tmod 7∧(wdO f - wd+13).tmod 7 ≤ 6:=by rw [tmod_pos (by omega)];omega
  have x12a:IntKind.i64.wrap (f+7)=f+7:=IntWalk.i64_in _ (by omega)
  have x12b:wrap64 (f+7)=f+7:=IntWalk.wrap64_in _ (by omega)
  clear hs hw hd hm3 hm4
  rw [E.out]
  clear E Hrel
  go_enter Tryz.func241,Tryz.ntmps241
  go_wp2_with fail
  refine Calls.mono (Hd.out _) ?_
  rintro e w1 ⟨rfl,hx1⟩
  go_wp2_with fail
  go_ret
  exact ⟨rfl,hx1⟩
 ·have E:Hid (relO fe 3 wd y=f+1+(wd - wdO f+13).tmod 7):=Hrel
  have hs:=Hs.out
  have hw:=Hw.out
  have hd:=wd_bd (show 0 ≤ f by omega)
  have hm3:0 ≤ (wd - wdO f+13).tmod 7∧(wd - wdO f+13).tmod 7 ≤ 6:=by rw [tmod_pos (by omega)];omega
  have hm4:0 ≤ (wdO f - wd+13).tmod 7∧(wdO f - wd+13).tmod 7 ≤ 6:=by rw [tmod_pos (by omega)];omega
  have hs3:=after_same (show 0 ≤ f by omega) hw
  have hd1:=wd_bd (show 0 ≤ f+1 by omega)
  have x13a:IntKind.i64.wrap (f+1)=f+1:=IntWalk.i64_in _ (by omega)
  have x13b:wrap64 (f+1)=f+1:=IntWalk.wrap64_in _ (by omega)
  have x14a:IntKind.i64.wrap (wd+14)=wd+14:=IntWalk.i64_in _ (by omega)
  have x14b:wrap64 (wd+14)=wd+14:=IntWalk.wrap64_in _ (by omega)
  have x15a:IntKind.i64.wrap (wd+14 - wdO (f+1))=wd+14 - wdO (f+1):=IntWalk.i64_in _ (by omega)
  have x15b:wrap64 (wd+14 - wdO (f+1))=wd+14 - wdO (f+1):=IntWalk.wrap64_in _ (by omega)
  have x16a:IntKind.i64.wrap (f+1+(wd - wdO f+13).tmod 7)=f+1+(wd - wdO f+13).tmod 7:=IntWalk.i64_in _ (by omega)
  have x16b:wrap64 (f+1+(wd - wdO f+13).tmod 7)=f+1+(wd - wdO f+13).tmod 7:=IntWalk.wrap64_in _ (by omega)
  clear hs hw hd hm3 hm4 hd1
  rw [E.out]
  clear E Hrel
  go_enter Tryz.func241,Tryz.ntmps241
  go_wp2_with fail
  refine Calls.mono (Hd.out _) ?_
  rintro e w1 ⟨rfl,hx1⟩
  go_wp2_with fail
  refine Calls.mono (spec_l01Weekday (f+1) (by have:=Hs.out;omega) _) ?_
  rintro e w2 ⟨rfl,rfl⟩
  go_wp2_with fail
  go_ret
  exact ⟨rfl,hx1⟩
 ·have E:Hid (relO fe 4 wd y=f - 1 - (wdO f - wd+13).tmod 7):=Hrel
  have hs:=Hs.out
  have hw:=Hw.out
  have hd:=wd_bd (show 0 ≤ f by omega)
  have hm3:0 ≤ (wd - wdO f+13).tmod 7∧(wd - wdO f+13).tmod 7 ≤ 6:=by rw [tmod_pos (by omega)];omega
  have hm4:0 ≤ (wdO f - wd+13).tmod 7∧(wdO f - wd+13).tmod 7 ≤ 6:=by rw [tmod_pos (by omega)];omega
  have hs3:=before_same (show 0 ≤ f by omega) hw
  have hd1:=wd_bd (show 0 ≤ f+6 by omega)
  have x17a:IntKind.i64.wrap (f - 1)=f - 1:=IntWalk.i64_in _ (by omega)
  have x17b:wrap64 (f - 1)=f - 1:=IntWalk.wrap64_in _ (by omega)
  have x18a:IntKind.i64.wrap (f+6)=f+6:=IntWalk.i64_in _ (by omega)
  have x18b:wrap64 (f+6)=f+6:=IntWalk.wrap64_in _ (by omega)
  have x19a:IntKind.i64.wrap (wdO (f+6)+7)=wdO (f+6)+7:=IntWalk.i64_in _ (by omega)
  have x19b:wrap64 (wdO (f+6)+7)=wdO (f+6)+7:=IntWalk.wrap64_in _ (by omega)
  have x20a:IntKind.i64.wrap (wdO (f+6)+7 - wd)=wdO (f+6)+7 - wd:=IntWalk.i64_in _ (by omega)
  have x20b:wrap64 (wdO (f+6)+7 - wd)=wdO (f+6)+7 - wd:=IntWalk.wrap64_in _ (by omega)
  have x21a:IntKind.i64.wrap (f - 1 - (wdO f - wd+13).tmod 7)=f - 1 - (wdO f - wd+13).tmod 7:=IntWalk.i64_in _ (by omega)
  have x21b:wrap64 (f - 1 - (wdO f - wd+13).tmod 7)=f - 1 - (wdO f - wd+13).tmod 7:=IntWalk.wrap64_in _ (by omega)
  clear hs hw hd hm3 hm4 hd1
  rw [E.out]
  clear E Hrel
  go_enter Tryz.func241,Tryz.ntmps241
  go_wp2_with fail
  refine Calls.mono (Hd.out _) ?_
  rintro e w1 ⟨rfl,hx1⟩
  go_wp2_with fail
  refine Calls.mono (spec_l01Weekday (f+6) (by have:=Hs.out;omega) _) ?_
  rintro e w2 ⟨rfl,rfl⟩
  go_wp2_with fail
  go_ret
  exact ⟨rfl,hx1⟩
end Go.Proofs.YtechbeegbhlppaaGreatDoor
namespace Go.Proofs.YtechbeegbhlppaaGreatDoor
set_option linter.unusedVariables false
set_option linter.unusedSimpArgs false
open Go.RowKit
attribute [local go_sem] cell_onto date_year
set_option maxRecDepth 100000 in
set_option maxHeartbeats 4000000 in
theorem impl_holds_0 (v:Value) (l:List Nsp) (nu mo fe re wd st:Int) (kg:ByteArray) (n:Int) (h:0 ≤ n∧n ≤ 730499) (w:World):Calls Tryz.prog 170 #[v,.agg #[.int .i64 0,.int .i64 nu,.int .i64 mo,.int .i64 fe,.int .i64 re,.int .i64 wd,.int .i64 st,.string kg],.int .i64 n] w (RetX (.bool (B (Hold l ⟨0,nu,mo,fe,re,wd,st,kg⟩ n))) w):=by
 have Hn:=qh h
 obtain ⟨q1,e1⟩:∃ b,decide (moO n=mo)=b:=⟨_,rfl⟩
 obtain ⟨q2,e2⟩:∃ b,decide (dyO n=nu)=b:=⟨_,rfl⟩
 have d1:(moO n == mo)=q1:=by rw [← e1];rfl
 have d2:(dyO n == nu)=q2:=by rw [← e2];rfl
 have E:Hid (B (Hold l ⟨0,nu,mo,fe,re,wd,st,kg⟩ n)=(q1 && q2)):=qh (by
  rw [B_congr (show Hold l ⟨0,nu,mo,fe,re,wd,st,kg⟩ n ↔ (moO n=mo∧dyO n=nu) from Iff.rfl),← e1,← e2]
  symm;apply B_eq;simp)
 have Hb:=qh (Boxed.new w [.int .i64 0,.int .i64 nu,.int .i64 mo,.int .i64 fe,.int .i64 re,.int .i64 wd,.int .i64 st,.string kg] 191)
 rw [E.out]
 clear h
 cases q1 <;> cases q2
 all_goals
  go_enter Tryz.func170,Tryz.ntmps170
  go_wp2_with fail
  refine Calls.mono (impl_dateOf n Hn.out _) ?_
  rintro e w1 ⟨rfl,hx1⟩
  simp only [datV]
  have hbc:=Hb.out.ext (Ext.trans exts hx1)
  have k1:=(hbc.2 1 _ rfl).1
  have k2:=(hbc.2 2 _ rfl).1
  have kg1:=hbc.1
  clear hbc
  go_wp2_with fail
  go_ret
  exact ⟨rfl,exts⟩
set_option maxRecDepth 100000 in
set_option maxHeartbeats 4000000 in
theorem impl_holds_3 (v:Value) (l:List Nsp) (nu mo fe re wd st:Int) (kg:ByteArray) (n:Int) (hst:0 ≤ st∧st ≤ 6) (h:0 ≤ n∧n ≤ 730499) (w:World):Calls Tryz.prog 170 #[v,.agg #[.int .i64 3,.int .i64 nu,.int .i64 mo,.int .i64 fe,.int .i64 re,.int .i64 wd,.int .i64 st,.string kg],.int .i64 n] w (RetX (.bool (B (Hold l ⟨3,nu,mo,fe,re,wd,st,kg⟩ n))) w):=by
 have Hn:=qh h
 have Hst:=qh hst
 obtain ⟨q1,e1⟩:∃ b,B (yrS st n ≠ 0)=b:=⟨_,rfl⟩
 obtain ⟨q2,e2⟩:∃ b,decide (yrS st n=nu)=b:=⟨_,rfl⟩
 have d2:(yrS st n == nu)=q2:=by rw [← e2];rfl
 have E:Hid (B (Hold l ⟨3,nu,mo,fe,re,wd,st,kg⟩ n)=(q1 && q2)):=qh (by
  rw [B_congr (show Hold l ⟨3,nu,mo,fe,re,wd,st,kg⟩ n ↔ (yrS st n ≠ 0∧yrS st n=nu) from Iff.rfl),← e1,← e2]
  symm;apply B_eq;simp [B_iff])
 have E1:=qh e1
 have Hb:=qh (Boxed.new w [.int .i64 3,.int .i64 nu,.int .i64 mo,.int .i64 fe,.int .i64 re,.int .i64 wd,.int .i64 st,.string kg] 191)
 rw [E.out]
 clear h hst e1
 cases q1 <;> cases q2
 all_goals
  go_enter Tryz.func170,Tryz.ntmps170
  go_wp2_with fail
  refine Calls.mono (impl_yearOn st n Hst.out Hn.out _) ?_
  rintro e w1 ⟨rfl,hx1⟩
  simp only [yrV]
  rw [E1.out]
  have hbc:=Hb.out.ext (Ext.trans exts hx1)
  have k1:=(hbc.2 1 _ rfl).1
  have kg1:=hbc.1
  clear hbc
  go_wp2_with fail
  go_ret
  exact ⟨rfl,exts⟩
set_option maxRecDepth 100000 in
set_option maxHeartbeats 4000000 in
theorem impl_holds_4 (v:Value) (l:List Nsp) (nu mo fe re wd st:Int) (kg:ByteArray) (n:Int) (hst:0 ≤ st∧st ≤ 2) (h:0 ≤ n∧n ≤ 730499) (w:World):Calls Tryz.prog 170 #[v,.agg #[.int .i64 4,.int .i64 nu,.int .i64 mo,.int .i64 fe,.int .i64 re,.int .i64 wd,.int .i64 st,.string kg],.int .i64 n] w (RetX (.bool (B (Hold l ⟨4,nu,mo,fe,re,wd,st,kg⟩ n))) w):=by
 have Hn:=qh h
 have Hst:=qh hst
 have E:Hid (B (Hold l ⟨4,nu,mo,fe,re,wd,st,kg⟩ n)=decide (indN st n=nu)):=qh (by
  rw [B_congr (show Hold l ⟨4,nu,mo,fe,re,wd,st,kg⟩ n ↔ (indN st n=nu) from Iff.rfl)]
  symm;apply B_eq;simp)
 rw [E.out]
 clear h hst
 go_enter Tryz.func170,Tryz.ntmps170
 go_wp2_with fail
 (refine wp_region_onto prog_mixed (by kernel_rfl) ?_;(repeat (go_big_quiet_step (((go_at_call 215;with_reducible exact onto_callX (impl_indictionOn st n Hst.out Hn.out _))))));refine onto_end ?_;intro w1 hx1)
 go_wp2_with fail
 go_ret
 exact ⟨rfl,exts⟩
set_option maxRecDepth 100000 in
set_option maxHeartbeats 4000000 in
theorem impl_holds_5 (v:Value) (l:List Nsp) (nu mo fe re wd st:Int) (kg:ByteArray) (n:Int) (h:0 ≤ n∧n ≤ 730499) (w:World):Calls Tryz.prog 170 #[v,.agg #[.int .i64 5,.int .i64 nu,.int .i64 mo,.int .i64 fe,.int .i64 re,.int .i64 wd,.int .i64 st,.string kg],.int .i64 n] w (RetX (.bool (B (Hold l ⟨5,nu,mo,fe,re,wd,st,kg⟩ n))) w):=by
 have Hn:=qh h
 have E:Hid (B (Hold l ⟨5,nu,mo,fe,re,wd,st,kg⟩ n)=decide (wdO n=wd)):=qh (by
  rw [B_congr (show Hold l ⟨5,nu,mo,fe,re,wd,st,kg⟩ n ↔ (wdO n=wd) from Iff.rfl)]
  symm;apply B_eq;simp)
 rw [E.out]
 clear h
 go_enter Tryz.func170,Tryz.ntmps170
 go_wp2_with fail
 (refine wp_region_onto prog_mixed (by kernel_rfl) ?_;(repeat (go_big_quiet_step (((go_at_call 216;with_reducible exact onto_callS (impl_weekdayOf n (by have:=Hn.out;omega) _))))));refine onto_end ?_;intro w1 hx1)
 go_wp2_with fail
 go_ret
 exact ⟨rfl,exts⟩
theorem fst_ex (p:Nat → Prop) (k:Nat):0 ≤ fstIx p k ↔ ∃ i,i < k∧p i:=by
 rcases fstIx_cases p k with ⟨h1,h2⟩ | ⟨j,h1,h2,h3,_⟩
 ·rw [h1]
  exact ⟨fun h=>absurd h (by decide),fun ⟨i,hi,hp⟩=>absurd hp (h2 i hi)⟩
 ·rw [h2]
  exact ⟨fun _=>⟨j,h1,h3⟩,fun _=>by omega⟩
set_option maxRecDepth 100000 in
set_option maxHeartbeats 4000000 in
theorem impl_holds_2 (w:World) (v:Value) (l:List Nsp) (nu mo fe re wd st:Int) (kg:ByteArray) (n:Int) (hv:Nsps w 0 w.heap.size v l) (hr:∀ i,i < l.length → 0 ≤ (nspAt l i).fr∧(nspAt l i).fr ≤ 730499) (h:0 ≤ n∧n ≤ 730499):Calls Tryz.prog 170 #[v,.agg #[.int .i64 2,.int .i64 nu,.int .i64 mo,.int .i64 fe,.int .i64 re,.int .i64 wd,.int .i64 st,.string kg],.int .i64 n] w (RetX (.bool (B (Hold l ⟨2,nu,mo,fe,re,wd,st,kg⟩ n))) w):=by
 have Hn:=qh h
 have Hv:=qh hv
 have Hr:=qh hr
 have E:Hid (B (0 ≤ fstIx (fun i=>HoldX (nspAt l i) ⟨2,nu,mo,fe,re,wd,st,kg⟩ n) l.length)=B (Hold l ⟨2,nu,mo,fe,re,wd,st,kg⟩ n)):=qh (B_congr ((fst_ex _ _).trans (show (∃ i,i < l.length∧HoldX (nspAt l i) ⟨2,nu,mo,fe,re,wd,st,kg⟩ n) ↔ Hold l ⟨2,nu,mo,fe,re,wd,st,kg⟩ n from Iff.rfl)))
 have HB:=qh (show ∀ w' : World,Ext ((w.alloc (.cells #[.int .i64 2,.int .i64 nu,.int .i64 mo,.int .i64 fe,.int .i64 re,.int .i64 wd,.int .i64 st,.string kg] 191)).alloc (.cells #[.int .i64 n] 2)) w' → Boxed w' w.heap.size [.int .i64 2,.int .i64 nu,.int .i64 mo,.int .i64 fe,.int .i64 re,.int .i64 wd,.int .i64 st,.string kg]∧Boxed w' (w.heap.size+1) [.int .i64 n] from fun w' hx=>by
  have h1:=((Boxed.new w [.int .i64 2,.int .i64 nu,.int .i64 mo,.int .i64 fe,.int .i64 re,.int .i64 wd,.int .i64 st,.string kg] 191).ext ((Ext.refl _).alloc (.cells #[.int .i64 n] 2))).ext hx
  have h2:=(Boxed.new (w.alloc (.cells #[.int .i64 2,.int .i64 nu,.int .i64 mo,.int .i64 fe,.int .i64 re,.int .i64 wd,.int .i64 st,.string kg] 191)) [.int .i64 n] 2).ext hx
  simp only [World.size_alloc] at h2
  exact ⟨h1,h2⟩)
 clear h hv hr
 go_enter Tryz.func170,Tryz.ntmps170
 go_wp2_with fail
 refine Calls.mono (containsFunc_reigns v l 211 _ (fun i=>HoldX (nspAt l i) ⟨2,nu,mo,fe,re,wd,st,kg⟩ n) _ (Hv.out.up exts) Tryz.call211 (fun i w' hi hx=>?_)) ?_
 ·obtain ⟨b1,b2⟩:=HB.out w' hx
  exact impl_holds_f (nspAt l i) ⟨2,nu,mo,fe,re,wd,st,kg⟩ n Hn.out (Hr.out i hi) w.heap.size (w.heap.size+1) w' b1.1 b2.1 (b1.2 1 _ rfl).1 (b1.2 7 _ rfl).1 b2.at0
 rintro e w1 ⟨rfl,hx1⟩
 rw [E.out]
 go_wp2_with fail
 go_ret
 exact ⟨rfl,exts⟩
end Go.Proofs.YtechbeegbhlppaaGreatDoor
namespace Go.Proofs.YtechbeegbhlppaaGreatDoor
set_option linter.unusedVariables false
set_option linter.unusedSimpArgs false
open Go.RowKit
attribute [local go_sem] cell_onto date_year
set_option maxRecDepth 100000 in
set_option maxHeartbeats 4000000 in
theorem impl_holds_1 (v:Value) (l:List Nsp) (nu mo fe re wd st:Int) (kg:ByteArray) (n:Int) (hf:0 ≤ fe∧fe ≤ 19) (hr:0 ≤ re∧re ≤ 4) (hw:0 ≤ wd∧wd ≤ 6) (h:0 ≤ n∧n ≤ 730499) (w:World):Calls Tryz.prog 170 #[v,.agg #[.int .i64 1,.int .i64 nu,.int .i64 mo,.int .i64 fe,.int .i64 re,.int .i64 wd,.int .i64 st,.string kg],.int .i64 n] w (RetX (.bool (B (Hold l ⟨1,nu,mo,fe,re,wd,st,kg⟩ n))) w):=by
 have Hn:=qh h
 have HR:=qh (fun (y:Int) (hy:1 ≤ y∧y ≤ 2000) (w:World)=>impl_relatedDay fe re wd y hf hr hw hy w)
 have Hy:=qh (show 1 ≤ yrO n∧yrO n ≤ 2000 from ⟨yr_pos h.1,yr_max h.2⟩)
 have W1:IntKind.i64.wrap (yrO n - 1)=yrO n - 1:=IntWalk.i64_in _ (by have:=Hy.out;omega)
 have W2:IntKind.i64.wrap (yrO n+1)=yrO n+1:=IntWalk.i64_in _ (by have:=Hy.out;omega)
 obtain ⟨y0,e0⟩:∃ y0,max 1 (yrO n - 1)=y0:=⟨_,rfl⟩
 obtain ⟨m,em⟩:∃ m,min 2000 (yrO n+1)=m:=⟨_,rfl⟩
 have Hym:=qh (show (1 ≤ y0∧yrO n - 1 ≤ y0∧(y0=1 ∨ y0=yrO n - 1))∧m ≤ 2000∧m ≤ yrO n+1∧(m=2000 ∨ m=yrO n+1) from by have:=Hy.out;omega)
 have E:Hid (Hold l ⟨1,nu,mo,fe,re,wd,st,kg⟩ n ↔ ∃ y,(1 ≤ y∧yrO n - 1 ≤ y)∧(y ≤ 2000∧y ≤ yrO n+1)∧relO fe re wd y=n):=qh Iff.rfl
 have HB:=qh (show ∀ w' : World,Ext ((w.alloc (.cells #[.int .i64 1,.int .i64 nu,.int .i64 mo,.int .i64 fe,.int .i64 re,.int .i64 wd,.int .i64 st,.string kg] 191)).alloc (.cells #[.int .i64 n] 2)) w' → Boxed w' w.heap.size [.int .i64 1,.int .i64 nu,.int .i64 mo,.int .i64 fe,.int .i64 re,.int .i64 wd,.int .i64 st,.string kg]∧Boxed w' (w.heap.size+1) [.int .i64 n] from fun w' hx=>by
  have h1:=((Boxed.new w [.int .i64 1,.int .i64 nu,.int .i64 mo,.int .i64 fe,.int .i64 re,.int .i64 wd,.int .i64 st,.string kg] 191).ext ((Ext.refl _).alloc (.cells #[.int .i64 n] 2))).ext hx
  have h2:=(Boxed.new (w.alloc (.cells #[.int .i64 1,.int .i64 nu,.int .i64 mo,.int .i64 fe,.int .i64 re,.int .i64 wd,.int .i64 st,.string kg] 191)) [.int .i64 n] 2).ext hx
  simp only [World.size_alloc] at h2
  exact ⟨h1,h2⟩)
 clear h hf hr hw
 go_enter Tryz.func170,Tryz.ntmps170
 go_wp2_with fail
 refine Calls.mono (impl_dateOf n Hn.out _) ?_
 rintro e w1 ⟨rfl,hx1⟩
 simp only [datV]
 obtain ⟨b1,b2⟩:=HB.out w1 hx1
 have Hb1:=qh b1
 have Hb2:=qh b2
 clear b1 b2 HB
 go_wp2_with fail
 go_loopg [9] 4 (fun k a wr=>∃ y:Int,a=.int .i64 y∧(1 ≤ y∧yrO n - 1 ≤ y)∧(y ≤ yrO n+2∧y ≤ 2001)∧yrO n+2 ≤ y+k∧(∀ z,(1 ≤ z∧yrO n - 1 ≤ z) → z < y → ¬ relO fe re wd z=n)∧Ext w wr∧Boxed wr w.heap.size [.int .i64 1,.int .i64 nu,.int .i64 mo,.int .i64 fe,.int .i64 re,.int .i64 wd,.int .i64 st,.string kg]∧Boxed wr (w.heap.size+1) [.int .i64 n])
 case atStart=>exact ⟨y0,rfl,by have:=Hym.out;omega,by have:=Hym.out;have:=Hy.out;omega,by have:=Hym.out;omega,fun z hz hz2=>by have:=Hym.out;omega,Ext.trans exts hx1,Hb1.out,Hb2.out⟩
 clear Hb1 Hb2
 case round =>
  obtain ⟨y,rfl,hy1,hy2,hk,hno,hx,hb1,hb2⟩:=hrel
  have Hno:=qh hno
  have Hb1:=qh hb1
  have Hb2:=qh hb2
  have k3:=(hb1.2 3 _ rfl).1
  have k4:=(hb1.2 4 _ rfl).1
  have k5:=(hb1.2 5 _ rfl).1
  have n0:=hb2.at0
  have z1:=hb1.1
  have z2:=hb2.1
  have V1:IntKind.i64.wrap (y+1)=y+1:=IntWalk.i64_in _ (by omega)
  clear hno hb1 hb2
  by_cases hle:y ≤ m
  ·have Hyy:=qh (show 1 ≤ y∧y ≤ 2000 from by have:=Hym.out;omega)
   have Hle:=qh hle
   by_cases hq:relO fe re wd y=n
   ·have D1:decide (relO fe re wd y=n)=true:=decide_eq_true hq
    have D2:(relO fe re wd y == n)=true:=by simpa using hq
    have R:=qh (B_true (E.out.2 ⟨y,hy1,by have:=Hym.out;omega,hq⟩))
    clear hq
    go_wp2_with fail
    (refine wp_region_onto prog_mixed (by kernel_rfl) ?_;(repeat (go_big_quiet_step (((go_at_call 209;with_reducible exact onto_callX (HR.out y Hyy.out _))))));refine onto_end ?_;intro w2 hx2)
    go_wp2_with fail
    go_ret
    exact ⟨ret_bool (by rw [R.out]),exts⟩
   ·have D1:decide (relO fe re wd y=n)=false:=decide_eq_false hq
    have D2:(relO fe re wd y == n)=false:=by simpa using hq
    have Hq:=qh hq
    clear hq
    go_wp2_with fail
    (refine wp_region_onto prog_mixed (by kernel_rfl) ?_;(repeat (go_big_quiet_step (((go_at_call 209;with_reducible exact onto_callX (HR.out y Hyy.out _))))));refine onto_end ?_;intro w2 hx2)
    go_wp2_with fail
    go_roundg (yrO n+2 - (y+1)).toNat
    case measure=>have:=Hym.out;have:=Hle.out;omega
    case rel=>exact ⟨y+1,rfl,by omega,by have:=Hym.out;have:=Hle.out;omega,by omega,fun z hz hz2=>by
     by_cases e:z=y
     ·subst e;exact Hq.out
     ·exact Hno.out z hz (by omega),hx.trans hx2,Hb1.out.ext hx2,Hb2.out.ext hx2⟩
  ·have R:=qh (B_false (fun hh=>by
    obtain ⟨z,hz1,hz2,hz3⟩:=E.out.1 hh
    exact Hno.out z hz1 (by have:=Hym.out;omega) hz3))
   go_wp2_with fail
   go_ret
   exact ⟨ret_bool (by rw [R.out]),exts⟩
theorem impl_holds (v:Value) (l:List Nsp) (c:Cls) (n:Int) (hc:ClsOk c) (h:0 ≤ n∧n ≤ 730499) (w:World) (hv:Nsps w 0 w.heap.size v l) (hr:∀ i,i < l.length → 0 ≤ (nspAt l i).fr∧(nspAt l i).fr ≤ 730499) :
  Calls Tryz.prog 170 #[v,.agg #[.int .i64 c.ki,.int .i64 c.nu,.int .i64 c.mo,.int .i64 c.fe,.int .i64 c.re,.int .i64 c.wd,.int .i64 c.st,.string c.kg],.int .i64 n] w (RetX (.bool (B (Hold l c n))) w):=by
 obtain ⟨ki,nu,mo,fe,re,wd,st,kg⟩:=c
 rcases hc.1 with ⟨h0,h1⟩ | ⟨h0,h1⟩ | ⟨h0,h1⟩ | ⟨h0,h1⟩ | ⟨h0,h1⟩ | ⟨h0,h1⟩
 all_goals (change ki=_ at h0;subst h0)
 ·exact impl_holds_0 v l nu mo fe re wd st kg n h w
 ·exact impl_holds_1 v l nu mo fe re wd st kg n h1.1 h1.2.1 h1.2.2.1 h w
 ·exact impl_holds_2 w v l nu mo fe re wd st kg n hv hr h
 ·exact impl_holds_3 v l nu mo fe re wd st kg n h1.2 h w
 ·exact impl_holds_4 v l nu mo fe re wd st kg n h1.2 h w
 ·exact impl_holds_5 v l nu mo fe re wd st kg n h w
end Go.Proofs.YtechbeegbhlppaaGreatDoor
namespace Go.Proofs.YtechbeegbhlppaaGreatDoor
set_option linter.unusedVariables false
set_option linter.unusedSimpArgs false
open Go.RowKit
attribute [local go_sem] cell_onto date_year
set_option maxRecDepth 100000 in
set_option maxHeartbeats 4000000 in
theorem spec_l07Begin (nm:ByteArray) (fr t k:Int) (hf:0 ≤ fr∧fr ≤ 730499) (hk:1 ≤ k∧k ≤ 3000) (w:World):Calls Tryz.prog 289 #[.agg #[.string nm,.int .i64 fr,.int .i64 t],.int .i64 k] w (RetX (.int .i64 (begR fr k)) w):=by
 have Hf:=qh hf
 have Hy:=qh (show 1 ≤ yrO fr∧yrO fr ≤ 2000 from ⟨yr_pos hf.1,yr_max hf.2⟩)
 have Hm:=qh (mo_1 hf.1)
 have Hd:=qh (show 1 ≤ dyO fr∧dyO fr ≤ 31 from by have h1:=dy_bd hf.1;have:=lenO_bd (yrO fr) (moO fr);omega)
 obtain ⟨y,ey⟩:∃ y,yrO fr+k - 1=y:=⟨_,rfl⟩
 have W1:IntKind.i64.wrap (yrO fr+k)=yrO fr+k:=IntWalk.i64_in _ (by have:=Hy.out;omega)
 have W2:IntKind.i64.wrap (yrO fr+k - 1)=y:=by rw [IntWalk.i64_in _ (by have:=Hy.out;omega)];exact ey
 have Hyy:=qh (show 1 ≤ y∧y ≤ 5000 by have:=Hy.out;omega)
 by_cases m1:moO fr=2
 ·have D1:decide (moO fr=2)=true:=decide_eq_true m1
  have D1' : (moO fr == 2)=true:=by simpa using m1
  by_cases m2:dyO fr=29
  ·have D2:decide (dyO fr=29)=true:=decide_eq_true m2
   have D2' : (dyO fr == 29)=true:=by simpa using m2
   by_cases m3:y.tmod 4=0
   ·have D3:=qh (decide_eq_true m3)
    have E:Hid (numO y (moO fr) (dyO fr)=begR fr k):=qh (by unfold begR;rw [ey,if_neg (fun hh=>hh.2.2 m3)])
    clear hf hk ey m1 m2 m3
    go_enter Tryz.func289,Tryz.ntmps289
    go_wp2_with fail
    refine Calls.mono (spec_l01Old fr Hf.out _) ?_
    rintro e w1 ⟨rfl,hx1⟩
    simp only [datV]
    go_wp2_with fail
    refine Calls.mono (spec_l01Leap_b D3.out _) ?_
    rintro e w2 ⟨rfl,rfl⟩
    go_wp2_with fail
    refine Calls.mono (spec_l01Number y (moO fr) (dyO fr) Hyy.out (by have:=Hm.out;omega) (by have:=Hd.out;omega) _) ?_
    rintro e w3 ⟨rfl,hx3⟩
    rw [E.out]
    go_wp2_with fail
    go_ret
    exact ⟨rfl,Ext.trans exts hx3⟩
   ·have D3:=qh (decide_eq_false m3)
    have E:Hid (numO y 3 1=begR fr k):=qh (by unfold begR;rw [ey,if_pos ⟨m1,m2,m3⟩])
    clear hf hk ey m1 m2 m3
    go_enter Tryz.func289,Tryz.ntmps289
    go_wp2_with fail
    refine Calls.mono (spec_l01Old fr Hf.out _) ?_
    rintro e w1 ⟨rfl,hx1⟩
    simp only [datV]
    go_wp2_with fail
    refine Calls.mono (spec_l01Leap_b D3.out _) ?_
    rintro e w2 ⟨rfl,rfl⟩
    go_wp2_with fail
    refine Calls.mono (spec_l01Number y 3 1 Hyy.out (by omega) (by omega) _) ?_
    rintro e w3 ⟨rfl,hx3⟩
    rw [E.out]
    go_wp2_with fail
    go_ret
    exact ⟨rfl,Ext.trans exts hx3⟩
  ·have D2:decide (dyO fr=29)=false:=decide_eq_false m2
   have D2' : (dyO fr == 29)=false:=by simpa using m2
   have E:Hid (numO y (moO fr) (dyO fr)=begR fr k):=qh (by unfold begR;rw [ey,if_neg (fun hh=>m2 hh.2.1)])
   clear hf hk ey m1
   go_enter Tryz.func289,Tryz.ntmps289
   go_wp2_with fail
   refine Calls.mono (spec_l01Old fr Hf.out _) ?_
   rintro e w1 ⟨rfl,hx1⟩
   simp only [datV]
   go_wp2_with fail
   refine Calls.mono (spec_l01Number y (moO fr) (dyO fr) Hyy.out (by have:=Hm.out;omega) (by have:=Hd.out;omega) _) ?_
   rintro e w3 ⟨rfl,hx3⟩
   rw [E.out]
   go_wp2_with fail
   go_ret
   exact ⟨rfl,Ext.trans exts hx3⟩
 ·have D1:decide (moO fr=2)=false:=decide_eq_false m1
  have D1' : (moO fr == 2)=false:=by simpa using m1
  have E:Hid (numO y (moO fr) (dyO fr)=begR fr k):=qh (by unfold begR;rw [ey,if_neg (fun hh=>m1 hh.1)])
  clear hf hk ey
  go_enter Tryz.func289,Tryz.ntmps289
  go_wp2_with fail
  refine Calls.mono (spec_l01Old fr Hf.out _) ?_
  rintro e w1 ⟨rfl,hx1⟩
  simp only [datV]
  go_wp2_with fail
  refine Calls.mono (spec_l01Number y (moO fr) (dyO fr) Hyy.out (by have:=Hm.out;omega) (by have:=Hd.out;omega) _) ?_
  rintro e w3 ⟨rfl,hx3⟩
  rw [E.out]
  go_wp2_with fail
  go_ret
  exact ⟨rfl,Ext.trans exts hx3⟩
theorem spec_l01Old_a (n:Int) (h:0 ≤ n∧n ≤ 730499) (w:World):Calls Tryz.prog 240 #[.int .i64 n] w (RetX (.agg #[.int .i64 (yrO n),.int .i64 (moO n),.int .i64 (dyO n)]) w):=spec_l01Old n h w
set_option maxRecDepth 100000 in
set_option maxHeartbeats 4000000 in
theorem spec_l07Year (nm:ByteArray) (fr t n:Int) (hf:0 ≤ fr∧fr ≤ 730499) (hn:0 ≤ n∧n ≤ 730499) (w:World):Calls Tryz.prog 242 #[.agg #[.string nm,.int .i64 fr,.int .i64 t],.int .i64 n] w (RetX (.int .i64 (rgY fr n)) w):=by
 have Hf:=qh hf
 have Hn:=qh hn
 have Hr:=qh (rgY_spec hf.1 hn.2)
 have Hb:=qh (Boxed.new w [.string nm,.int .i64 fr,.int .i64 t] 224)
 have Hy:=qh (show (1 ≤ yrO fr∧yrO fr ≤ 2000)∧1 ≤ yrO n∧yrO n ≤ 2000 from ⟨⟨yr_pos hf.1,yr_max hf.2⟩,yr_pos hn.1,yr_max hn.2⟩)
 obtain ⟨k0,ek⟩:∃ k0:Nat,max 1 (yrO n - yrO fr)=(k0:Int)+1:=⟨(max 1 (yrO n - yrO fr) - 1).toNat,by omega⟩
 have Hk0:=qh (show ((k0:Int)+1=1 ∨ begR fr ((k0:Int)+1) ≤ n)∧(k0:Int)+1 ≤ rgY fr n from by
  have hs:=Hr.out
  by_cases e:(k0:Int)+1=1
  ·exact ⟨.inl e,by omega⟩
  ·have hst:=begR_start hf.1 hn.1 (show 1 ≤ (k0:Int)+1 by omega) (show (k0:Int)+1 ≤ yrO n - yrO fr by omega)
   refine ⟨.inr hst,?_⟩
   by_cases e2:(k0:Int)+1 ≤ rgY fr n
   ·exact e2
   ·exfalso
    by_cases e3:rgY fr n+1=(k0:Int)+1
    ·have:=hs.2.2.2;rw [e3] at this;omega
    ·have:=begR_lt hf.1 (show 1 ≤ rgY fr n+1 by omega) (show rgY fr n+1 < (k0:Int)+1 by omega);omega)
 have W0:IntKind.i64.wrap (yrO n - yrO fr)=yrO n - yrO fr:=IntWalk.i64_in _ (by have:=Hy.out;omega)
 clear hf hn
 go_enter Tryz.func242,Tryz.ntmps242
 go_wp2_with fail
 (refine wp_region_onto prog_mixed (by kernel_rfl) ?_;(repeat (go_big_quiet_step (((go_at_call 240;first | with_reducible exact onto_callX (spec_l01Old_a n Hn.out _) | with_reducible exact onto_callX (spec_l01Old_a fr Hf.out _))))));refine onto_end ?_;intro w1 hx1)
 clear ek
 go_wp2_with fail
 go_loopg [5] 2002 (fun k a wr=>∃ i:Nat,2001 ≤ i+k∧a=.int .i64 ((i:Int)+1)∧((i:Int)+1=1 ∨ begR fr ((i:Int)+1) ≤ n)∧(i:Int)+1 ≤ rgY fr n∧Ext w wr∧Boxed wr w.heap.size [.string nm,.int .i64 fr,.int .i64 t])
 case atStart=>exact ⟨k0,by omega,rfl,Hk0.out.1,Hk0.out.2,exts,Hb.out.ext hx1⟩
 case round =>
  obtain ⟨i,hi,rfl,hle,hir,hx,hb⟩:=hrel
  have Hle:=qh hle
  have Hb:=qh hb
  have n0:=hb.at0
  have n1:=hb.at1
  have n2:=hb.at2
  have V1:IntKind.i64.wrap ((i:Int)+1+1)=(i:Int)+1+1:=IntWalk.i64_in _ (by have:=Hr.out;omega)
  clear hle hb
  by_cases hc:begR fr ((i:Int)+1+1) ≤ n
  ·have Hc2:=qh hc
   have Hlt:=qh (show (i:Int)+1+1 ≤ rgY fr n from by
    have h:=Hr.out
    by_cases e:(i:Int)+1=rgY fr n
    ·have:=h.2.2.2;rw [← e] at this;omega
    ·omega)
   go_wp2_with fail
   refine Calls.mono (spec_l07Begin nm fr t ((i:Int)+1+1) Hf.out (by have:=Hr.out;omega) _) ?_
   rintro e w2 ⟨rfl,hx2⟩
   go_wp2_with fail
   go_roundg (2001 - (i+1))
   case measure=>have:=Hlt.out;have:=Hr.out;omega
   case rel=>exact ⟨i+1,by have:=Hlt.out;have:=Hr.out;omega,by rw [show ((i+1:Nat):Int)+1=(i:Int)+1+1 by omega],.inr (by rw [show ((i+1:Nat):Int)+1=(i:Int)+1+1 by omega];exact Hc2.out),by have:=Hlt.out;omega,hx.trans hx2,Hb.out.ext hx2⟩
  ·have E:Hid ((i:Int)+1=rgY fr n):=qh (rgY_is Hf.out.1 Hn.out.2 (by omega) Hle.out (by omega)).symm
   go_wp2_with fail
   refine Calls.mono (spec_l07Begin nm fr t ((i:Int)+1+1) Hf.out (by have:=Hr.out;omega) _) ?_
   rintro e w2 ⟨rfl,hx2⟩
   go_wp2_with fail
   go_ret
   exact ⟨ret_int E.out,hx.trans hx2⟩
end Go.Proofs.YtechbeegbhlppaaGreatDoor
namespace Go.Proofs.YtechbeegbhlppaaGreatDoor
set_option linter.unusedVariables false
set_option linter.unusedSimpArgs false
open Go.RowKit
attribute [local go_sem] cell_onto date_year
set_option maxRecDepth 100000 in
set_option maxHeartbeats 4000000 in
theorem spec_l11Holds_0 (v:Value) (l:List Nsp) (nu mo fe re wd st:Int) (kg:ByteArray) (n:Int) (h:0 ≤ n∧n ≤ 730499) (w:World):Calls Tryz.prog 204 #[v,.agg #[.int .i64 0,.int .i64 nu,.int .i64 mo,.int .i64 fe,.int .i64 re,.int .i64 wd,.int .i64 st,.string kg],.int .i64 n] w (RetX (.bool (B (Hold l ⟨0,nu,mo,fe,re,wd,st,kg⟩ n))) w):=by
 have Hn:=qh h
 have Hb:=qh (Boxed.new w [.int .i64 0,.int .i64 nu,.int .i64 mo,.int .i64 fe,.int .i64 re,.int .i64 wd,.int .i64 st,.string kg] 191)
 obtain ⟨q1,e1⟩:∃ b,decide (moO n=mo)=b:=⟨_,rfl⟩
 obtain ⟨q2,e2⟩:∃ b,decide (dyO n=nu)=b:=⟨_,rfl⟩
 have d1:(moO n == mo)=q1:=by rw [← e1];rfl
 have d2:(dyO n == nu)=q2:=by rw [← e2];rfl
 have E:Hid (B (Hold l ⟨0,nu,mo,fe,re,wd,st,kg⟩ n)=(q1 && q2)):=qh (by
  rw [B_congr (show Hold l ⟨0,nu,mo,fe,re,wd,st,kg⟩ n ↔ (moO n=mo∧dyO n=nu) from Iff.rfl),← e1,← e2]
  symm;apply B_eq;simp)
 rw [E.out]
 clear h
 cases q1 <;> cases q2
 all_goals
  go_enter Tryz.func204,Tryz.ntmps204
  go_wp2_with fail
  refine Calls.mono (spec_l01Old n Hn.out _) ?_
  rintro e w1 ⟨rfl,hx1⟩
  simp only [datV]
  have hbc:=(Hb.out.ext hx1).ext ((Ext.refl w1).alloc (.cells #[.int .i64 (yrO n),.int .i64 (moO n),.int .i64 (dyO n)] 265))
  have Hbc:=qh hbc
  have k0:=(hbc.2 0 _ rfl).1
  have k1:=(hbc.2 1 _ rfl).1
  have k2:=(hbc.2 2 _ rfl).1
  have k3:=(hbc.2 3 _ rfl).1
  have k4:=(hbc.2 4 _ rfl).1
  have k5:=(hbc.2 5 _ rfl).1
  have k6:=(hbc.2 6 _ rfl).1
  have kg0:=hbc.1
  have kg1:w.heap.size < w1.heap.size:=(Hb.out.ext hx1).1
  have kg2:w.heap.size < w1.heap.size+1:=by omega
  clear hbc
  go_wp2_with fail
  go_ret
  exact ⟨rfl,exts⟩
set_option maxRecDepth 100000 in
set_option maxHeartbeats 4000000 in
theorem spec_l11Holds_3 (v:Value) (l:List Nsp) (nu mo fe re wd st:Int) (kg:ByteArray) (n:Int) (hst:0 ≤ st∧st ≤ 6) (h:0 ≤ n∧n ≤ 730499) (w:World):Calls Tryz.prog 204 #[v,.agg #[.int .i64 3,.int .i64 nu,.int .i64 mo,.int .i64 fe,.int .i64 re,.int .i64 wd,.int .i64 st,.string kg],.int .i64 n] w (RetX (.bool (B (Hold l ⟨3,nu,mo,fe,re,wd,st,kg⟩ n))) w):=by
 have Hn:=qh h
 have Hb:=qh (Boxed.new w [.int .i64 3,.int .i64 nu,.int .i64 mo,.int .i64 fe,.int .i64 re,.int .i64 wd,.int .i64 st,.string kg] 191)
 have Hst:=qh hst
 obtain ⟨q1,e1⟩:∃ b,B (yrS st n ≠ 0)=b:=⟨_,rfl⟩
 obtain ⟨q2,e2⟩:∃ b,decide (yrS st n=nu)=b:=⟨_,rfl⟩
 have d2:(yrS st n == nu)=q2:=by rw [← e2];rfl
 have E:Hid (B (Hold l ⟨3,nu,mo,fe,re,wd,st,kg⟩ n)=(q1 && q2)):=qh (by
  rw [B_congr (show Hold l ⟨3,nu,mo,fe,re,wd,st,kg⟩ n ↔ (yrS st n ≠ 0∧yrS st n=nu) from Iff.rfl),← e1,← e2]
  symm;apply B_eq;simp [B_iff])
 have E1:=qh e1
 rw [E.out]
 clear h hst e1
 cases q1 <;> cases q2
 all_goals
  go_enter Tryz.func204,Tryz.ntmps204
  go_wp2_with fail
  refine Calls.mono (spec_l01Old n Hn.out _) ?_
  rintro e w1 ⟨rfl,hx1⟩
  simp only [datV]
  have hbc:=(Hb.out.ext hx1).ext ((Ext.refl w1).alloc (.cells #[.int .i64 (yrO n),.int .i64 (moO n),.int .i64 (dyO n)] 265))
  have Hbc:=qh hbc
  have k0:=(hbc.2 0 _ rfl).1
  have k1:=(hbc.2 1 _ rfl).1
  have k2:=(hbc.2 2 _ rfl).1
  have k3:=(hbc.2 3 _ rfl).1
  have k4:=(hbc.2 4 _ rfl).1
  have k5:=(hbc.2 5 _ rfl).1
  have k6:=(hbc.2 6 _ rfl).1
  have kg0:=hbc.1
  have kg1:w.heap.size < w1.heap.size:=(Hb.out.ext hx1).1
  have kg2:w.heap.size < w1.heap.size+1:=by omega
  clear hbc
  go_wp2_with fail
  refine Calls.mono (spec_l06On st n Hst.out Hn.out _) ?_
  rintro e w2 ⟨rfl,hx2⟩
  simp only [yrV]
  rw [E1.out]
  have kk:=((Hbc.out.ext hx2).2 1 _ rfl).1
  have kkg:=(Hbc.out.ext hx2).1
  go_wp2_with fail
  go_ret
  exact ⟨rfl,exts⟩
set_option maxRecDepth 100000 in
set_option maxHeartbeats 4000000 in
theorem spec_l11Holds_4 (v:Value) (l:List Nsp) (nu mo fe re wd st:Int) (kg:ByteArray) (n:Int) (hst:0 ≤ st∧st ≤ 2) (h:0 ≤ n∧n ≤ 730499) (w:World):Calls Tryz.prog 204 #[v,.agg #[.int .i64 4,.int .i64 nu,.int .i64 mo,.int .i64 fe,.int .i64 re,.int .i64 wd,.int .i64 st,.string kg],.int .i64 n] w (RetX (.bool (B (Hold l ⟨4,nu,mo,fe,re,wd,st,kg⟩ n))) w):=by
 have Hn:=qh h
 have Hb:=qh (Boxed.new w [.int .i64 4,.int .i64 nu,.int .i64 mo,.int .i64 fe,.int .i64 re,.int .i64 wd,.int .i64 st,.string kg] 191)
 have Hst:=qh hst
 have E:Hid (B (Hold l ⟨4,nu,mo,fe,re,wd,st,kg⟩ n)=decide (indN st n=nu)):=qh (by
  rw [B_congr (show Hold l ⟨4,nu,mo,fe,re,wd,st,kg⟩ n ↔ (indN st n=nu) from Iff.rfl)]
  symm;apply B_eq;simp)
 rw [E.out]
 clear h hst
 go_enter Tryz.func204,Tryz.ntmps204
 go_wp2_with fail
 refine Calls.mono (spec_l01Old n Hn.out _) ?_
 rintro e w1 ⟨rfl,hx1⟩
 simp only [datV]
 have hbc:=(Hb.out.ext hx1).ext ((Ext.refl w1).alloc (.cells #[.int .i64 (yrO n),.int .i64 (moO n),.int .i64 (dyO n)] 265))
 have Hbc:=qh hbc
 have k0:=(hbc.2 0 _ rfl).1
 have k1:=(hbc.2 1 _ rfl).1
 have k2:=(hbc.2 2 _ rfl).1
 have k3:=(hbc.2 3 _ rfl).1
 have k4:=(hbc.2 4 _ rfl).1
 have k5:=(hbc.2 5 _ rfl).1
 have k6:=(hbc.2 6 _ rfl).1
 have kg0:=hbc.1
 have kg1:w.heap.size < w1.heap.size:=(Hb.out.ext hx1).1
 have kg2:w.heap.size < w1.heap.size+1:=by omega
 clear hbc
 go_wp2_with fail
 (refine wp_region_onto prog_mixed (by kernel_rfl) ?_;(repeat (go_big_quiet_step (((go_at_call 244;with_reducible exact onto_callX (spec_l08On st n Hst.out Hn.out _))))));refine onto_end ?_;intro w2 hx2)
 go_wp2_with fail
 go_ret
 exact ⟨rfl,exts⟩
set_option maxRecDepth 100000 in
set_option maxHeartbeats 4000000 in
theorem spec_l11Holds_5 (v:Value) (l:List Nsp) (nu mo fe re wd st:Int) (kg:ByteArray) (n:Int) (h:0 ≤ n∧n ≤ 730499) (w:World):Calls Tryz.prog 204 #[v,.agg #[.int .i64 5,.int .i64 nu,.int .i64 mo,.int .i64 fe,.int .i64 re,.int .i64 wd,.int .i64 st,.string kg],.int .i64 n] w (RetX (.bool (B (Hold l ⟨5,nu,mo,fe,re,wd,st,kg⟩ n))) w):=by
 have Hn:=qh h
 have Hb:=qh (Boxed.new w [.int .i64 5,.int .i64 nu,.int .i64 mo,.int .i64 fe,.int .i64 re,.int .i64 wd,.int .i64 st,.string kg] 191)
 have E:Hid (B (Hold l ⟨5,nu,mo,fe,re,wd,st,kg⟩ n)=decide (wdO n=wd)):=qh (by
  rw [B_congr (show Hold l ⟨5,nu,mo,fe,re,wd,st,kg⟩ n ↔ (wdO n=wd) from Iff.rfl)]
  symm;apply B_eq;simp)
 rw [E.out]
 clear h
 go_enter Tryz.func204,Tryz.ntmps204
 go_wp2_with fail
 refine Calls.mono (spec_l01Old n Hn.out _) ?_
 rintro e w1 ⟨rfl,hx1⟩
 simp only [datV]
 have hbc:=(Hb.out.ext hx1).ext ((Ext.refl w1).alloc (.cells #[.int .i64 (yrO n),.int .i64 (moO n),.int .i64 (dyO n)] 265))
 have Hbc:=qh hbc
 have k0:=(hbc.2 0 _ rfl).1
 have k1:=(hbc.2 1 _ rfl).1
 have k2:=(hbc.2 2 _ rfl).1
 have k3:=(hbc.2 3 _ rfl).1
 have k4:=(hbc.2 4 _ rfl).1
 have k5:=(hbc.2 5 _ rfl).1
 have k6:=(hbc.2 6 _ rfl).1
 have kg0:=hbc.1
 have kg1:w.heap.size < w1.heap.size:=(Hb.out.ext hx1).1
 have kg2:w.heap.size < w1.heap.size+1:=by omega
 clear hbc
 go_wp2_with fail
 (refine wp_region_onto prog_mixed (by kernel_rfl) ?_;(repeat (go_big_quiet_step (((go_at_call 245;with_reducible exact onto_callS (spec_l01Weekday n (by have:=Hn.out;omega) _))))));refine onto_end ?_;intro w2 hx2)
 go_wp2_with fail
 go_ret
 exact ⟨rfl,exts⟩
end Go.Proofs.YtechbeegbhlppaaGreatDoor
namespace Go.Proofs.YtechbeegbhlppaaGreatDoor
set_option linter.unusedVariables false
set_option linter.unusedSimpArgs false
open Go.RowKit
attribute [local go_sem] cell_onto date_year
set_option maxRecDepth 100000 in
set_option maxHeartbeats 4000000 in
theorem spec_l11Holds_1 (v:Value) (l:List Nsp) (nu mo fe re wd st:Int) (kg:ByteArray) (n:Int) (hf:0 ≤ fe∧fe ≤ 19) (hr:0 ≤ re∧re ≤ 4) (hw:0 ≤ wd∧wd ≤ 6) (h:0 ≤ n∧n ≤ 730499) (w:World):Calls Tryz.prog 204 #[v,.agg #[.int .i64 1,.int .i64 nu,.int .i64 mo,.int .i64 fe,.int .i64 re,.int .i64 wd,.int .i64 st,.string kg],.int .i64 n] w (RetX (.bool (B (Hold l ⟨1,nu,mo,fe,re,wd,st,kg⟩ n))) w):=by
 have Hn:=qh h
 have HR:=qh (fun (y:Int) (hy:1 ≤ y∧y ≤ 2000) (w:World)=>spec_l05Related fe re wd y hf hr hw hy w)
 have Hy:=qh (show 1 ≤ yrO n∧yrO n ≤ 2000 from ⟨yr_pos h.1,yr_max h.2⟩)
 have W1:IntKind.i64.wrap (yrO n - 1)=yrO n - 1:=IntWalk.i64_in _ (by have:=Hy.out;omega)
 have W2:IntKind.i64.wrap (yrO n+1)=yrO n+1:=IntWalk.i64_in _ (by have:=Hy.out;omega)
 obtain ⟨y0,e0⟩:∃ y0,max 1 (yrO n - 1)=y0:=⟨_,rfl⟩
 obtain ⟨m,em⟩:∃ m,min 2000 (yrO n+1)=m:=⟨_,rfl⟩
 have Hym:=qh (show (1 ≤ y0∧yrO n - 1 ≤ y0∧(y0=1 ∨ y0=yrO n - 1))∧m ≤ 2000∧m ≤ yrO n+1∧(m=2000 ∨ m=yrO n+1) from by have:=Hy.out;omega)
 have E:Hid (Hold l ⟨1,nu,mo,fe,re,wd,st,kg⟩ n ↔ ∃ y,(1 ≤ y∧yrO n - 1 ≤ y)∧(y ≤ 2000∧y ≤ yrO n+1)∧relO fe re wd y=n):=qh Iff.rfl
 have Hb:=qh (Boxed.new w [.int .i64 1,.int .i64 nu,.int .i64 mo,.int .i64 fe,.int .i64 re,.int .i64 wd,.int .i64 st,.string kg] 191)
 clear h hf hr hw
 go_enter Tryz.func204,Tryz.ntmps204
 go_wp2_with fail
 refine Calls.mono (spec_l01Old n Hn.out _) ?_
 rintro e w1 ⟨rfl,hx1⟩
 simp only [datV]
 have hbc:=(Hb.out.ext hx1).ext ((Ext.refl w1).alloc (.cells #[.int .i64 (yrO n),.int .i64 (moO n),.int .i64 (dyO n)] 265))
 have Hbc:=qh hbc
 have Hbd:=qh (Boxed.new w1 [.int .i64 (yrO n),.int .i64 (moO n),.int .i64 (dyO n)] 265)
 have k0:=(hbc.2 0 _ rfl).1
 have kg1:w.heap.size < w1.heap.size:=(Hb.out.ext hx1).1
 have kg2:w.heap.size < w1.heap.size+1:=by omega
 clear hbc
 go_wp2_with fail
 go_loopg [8] 4 (fun k a wr=>∃ y:Int,a=.int .i64 y∧(1 ≤ y∧yrO n - 1 ≤ y)∧(y ≤ yrO n+2∧y ≤ 2001)∧yrO n+2 ≤ y+k∧(∀ z,(1 ≤ z∧yrO n - 1 ≤ z) → z < y → ¬ relO fe re wd z=n)∧Ext w wr∧Boxed wr w.heap.size [.int .i64 1,.int .i64 nu,.int .i64 mo,.int .i64 fe,.int .i64 re,.int .i64 wd,.int .i64 st,.string kg]∧Boxed wr w1.heap.size [.int .i64 (yrO n),.int .i64 (moO n),.int .i64 (dyO n)])
 case atStart=>exact ⟨y0,rfl,by have:=Hym.out;omega,by have:=Hym.out;have:=Hy.out;omega,by have:=Hym.out;omega,fun z hz hz2=>by have:=Hym.out;omega,exts,Hbc.out,Hbd.out⟩
 clear Hbc Hbd k0
 case round =>
  obtain ⟨y,rfl,hy1,hy2,hk,hno,hx,hb1,hb2⟩:=hrel
  have Hno:=qh hno
  have Hb1:=qh hb1
  have Hb2:=qh hb2
  have k3:=(hb1.2 3 _ rfl).1
  have k4:=(hb1.2 4 _ rfl).1
  have k5:=(hb1.2 5 _ rfl).1
  have n0:=hb2.at0
  have z1:=hb1.1
  have z2:=hb2.1
  have V1:IntKind.i64.wrap (y+1)=y+1:=IntWalk.i64_in _ (by omega)
  clear hno hb1 hb2
  by_cases hle:y ≤ m
  ·have Hyy:=qh (show 1 ≤ y∧y ≤ 2000 from by have:=Hym.out;omega)
   have Hle:=qh hle
   by_cases hq:relO fe re wd y=n
   ·have D1:decide (relO fe re wd y=n)=true:=decide_eq_true hq
    have D2:(relO fe re wd y == n)=true:=by simpa using hq
    have R:=qh (B_true (E.out.2 ⟨y,hy1,by have:=Hym.out;omega,hq⟩))
    clear hq
    go_wp2_with fail
    first
    | ((refine wp_region_onto prog_mixed (by kernel_rfl) ?_;(repeat (go_big_quiet_step (((go_at_call 241;with_reducible exact onto_callX (HR.out y Hyy.out _))))));refine onto_end ?_;intro w2 hx2);go_wp2_with fail;go_ret;exact ⟨ret_bool (by rw [R.out]),exts⟩)
    | (refine Calls.mono (HR.out y Hyy.out _) ?_;rintro e w2 ⟨rfl,hx2⟩;go_wp2_with fail;go_ret;exact ⟨ret_bool (by rw [R.out]),exts⟩)
   ·have D1:decide (relO fe re wd y=n)=false:=decide_eq_false hq
    have D2:(relO fe re wd y == n)=false:=by simpa using hq
    have Hq:=qh hq
    clear hq
    go_wp2_with fail
    refine Calls.mono (HR.out y Hyy.out _) ?_
    rintro e w2 ⟨rfl,hx2⟩
    go_wp2_with fail
    go_roundg (yrO n+2 - (y+1)).toNat
    case measure=>have:=Hym.out;have:=Hle.out;omega
    case rel=>exact ⟨y+1,rfl,by omega,by have:=Hym.out;have:=Hle.out;omega,by omega,fun z hz hz2=>by
     by_cases e:z=y
     ·subst e;exact Hq.out
     ·exact Hno.out z hz (by omega),hx.trans hx2,Hb1.out.ext hx2,Hb2.out.ext hx2⟩
  ·have R:=qh (B_false (fun hh=>by
    obtain ⟨z,hz1,hz2,hz3⟩:=E.out.1 hh
    exact Hno.out z hz1 (by have:=Hym.out;omega) hz3))
   go_wp2_with fail
   go_ret
   exact ⟨ret_bool (by rw [R.out]),exts⟩
end Go.Proofs.YtechbeegbhlppaaGreatDoor
namespace Go.Proofs.YtechbeegbhlppaaGreatDoor
set_option linter.unusedVariables false
set_option linter.unusedSimpArgs false
open Go.RowKit
attribute [local go_sem] cell_onto date_year
set_option maxRecDepth 100000 in
set_option maxHeartbeats 8000000 in
theorem spec_l11Holds_2 (w:World) (v:Value) (l:List Nsp) (nu mo fe re wd st:Int) (kg:ByteArray) (n:Int) (hv:Nsps w 0 w.heap.size v l) (hr:∀ i,i < l.length → 0 ≤ (nspAt l i).fr∧(nspAt l i).fr ≤ 730499) (h:0 ≤ n∧n ≤ 730499):Calls Tryz.prog 204 #[v,.agg #[.int .i64 2,.int .i64 nu,.int .i64 mo,.int .i64 fe,.int .i64 re,.int .i64 wd,.int .i64 st,.string kg],.int .i64 n] w (RetX (.bool (B (Hold l ⟨2,nu,mo,fe,re,wd,st,kg⟩ n))) w):=by
 obtain ⟨A,c,rfl,hnl,hcl⟩:=hv.len
 have Hn:=qh h
 have Hv:=qh hv
 have Hr:=qh hr
 have E:Hid (Hold l ⟨2,nu,mo,fe,re,wd,st,kg⟩ n ↔ ∃ i,i < l.length∧HoldX (nspAt l i) ⟨2,nu,mo,fe,re,wd,st,kg⟩ n):=qh Iff.rfl
 have Hb:=qh (Boxed.new w [.int .i64 2,.int .i64 nu,.int .i64 mo,.int .i64 fe,.int .i64 re,.int .i64 wd,.int .i64 st,.string kg] 191)
 clear h hv hr
 go_enter Tryz.func204,Tryz.ntmps204
 go_wp2_with fail
 refine Calls.mono (spec_l01Old n Hn.out _) ?_
 rintro e w1 ⟨rfl,hx1⟩
 simp only [datV]
 have hbc:=(Hb.out.ext hx1).ext ((Ext.refl w1).alloc (.cells #[.int .i64 (yrO n),.int .i64 (moO n),.int .i64 (dyO n)] 265))
 have Hbc:=qh hbc
 have k0:=(hbc.2 0 _ rfl).1
 have kg1:w.heap.size < w1.heap.size:=(Hb.out.ext hx1).1
 have kg2:w.heap.size < w1.heap.size+1:=by omega
 clear hbc
 go_wp2_with fail
 go_loopg [9] l.length (fun k a wr=>∃ j:Nat,j+k=l.length∧a=.int .i64 j∧(∀ z,z < j → ¬ HoldX (nspAt l z) ⟨2,nu,mo,fe,re,wd,st,kg⟩ n)∧Ext w wr∧Boxed wr w.heap.size [.int .i64 2,.int .i64 nu,.int .i64 mo,.int .i64 fe,.int .i64 re,.int .i64 wd,.int .i64 st,.string kg])
 case atStart=>exact ⟨0,by omega,rfl,fun z hz=>absurd hz (by omega),exts,Hbc.out⟩
 clear Hbc k0
 case round =>
  obtain ⟨j,hj,rfl,hno,hx,hb1⟩:=hrel
  have Hno:=qh hno
  have Hb1:=qh hb1
  have k1:=(hb1.2 1 _ rfl).1
  have k7:=(hb1.2 7 _ rfl).1
  have z1:=hb1.1
  have hj0:(0:Int) ≤ (j:Int):=by omega
  clear hno hb1
  by_cases hlt:j < l.length
  ·have hji:(j:Int) < (l.length:Int):=by omega
   have Hfr:=qh (Hr.out j hlt)
   obtain ⟨b,off,rfl,_,hb,h1,h2,h3⟩:=(Hv.out.ext hx (Nat.le_refl _)).at_ hlt
   have hbr:b < wr.heap.size:=Nat.lt_of_lt_of_le hb hx.size
   by_cases e:(nspAt l j).nm=kg
   ·have T:=str_is e
    by_cases hc:(nspAt l j).fr ≤ n∧n ≤ (nspAt l j).to
    ·have Q:=qh (B_true hc)
     by_cases hq:rgY (nspAt l j).fr n=nu
     ·have D1:decide (rgY (nspAt l j).fr n=nu)=true:=decide_eq_true hq
      have D2:(rgY (nspAt l j).fr n == nu)=true:=by simpa using hq
      have R:=qh (B_true (E.out.2 ⟨j,hlt,e,hc,hq⟩))
      clear e hc hq
      go_wp2_with fail
      (refine wp_region_onto prog_mixed (by kernel_rfl) ?_;(repeat (go_big_quiet_step ((first | (go_at_call 42;with_reducible exact onto_callS (spec_l01In_q Q.out _)) | (go_at_call 242;with_reducible exact onto_callX (spec_l07Year (nspAt l j).nm (nspAt l j).fr (nspAt l j).to n Hfr.out Hn.out _))))));refine onto_end ?_;intro w2 hx2)
      go_wp2_with fail
      go_ret
      exact ⟨ret_bool (by rw [R.out]),exts⟩
     ·have D1:decide (rgY (nspAt l j).fr n=nu)=false:=decide_eq_false hq
      have D2:(rgY (nspAt l j).fr n == nu)=false:=by simpa using hq
      have NX:=qh (show ¬ HoldX (nspAt l j) ⟨2,nu,mo,fe,re,wd,st,kg⟩ n from fun hh=>hq hh.2.2)
      clear e hc hq
      go_wp2_with fail
      (refine wp_region_onto prog_mixed (by kernel_rfl) ?_;(repeat (go_big_quiet_step ((first | (go_at_call 42;with_reducible exact onto_callS (spec_l01In_q Q.out _)) | (go_at_call 242;with_reducible exact onto_callX (spec_l07Year (nspAt l j).nm (nspAt l j).fr (nspAt l j).to n Hfr.out Hn.out _))))));refine onto_end ?_;intro w2 hx2)
      go_wp2_with fail
      go_roundg (l.length - (j+1))
      case measure=>omega
      case rel =>
       refine ⟨j+1,by omega,by go_num,fun z hz=>?_,hx.trans hx2,Hb1.out.ext hx2⟩
       by_cases e:z=j
       ·rw [e];exact NX.out
       ·exact Hno.out z (by omega)
    ·have Q:=qh (B_false hc)
     have NX:=qh (show ¬ HoldX (nspAt l j) ⟨2,nu,mo,fe,re,wd,st,kg⟩ n from fun hh=>hc hh.2.1)
     clear e hc
     go_wp2_with fail
     (refine wp_region_onto prog_mixed (by kernel_rfl) ?_;(repeat (go_big_quiet_step (((go_at_call 42;with_reducible exact onto_callS (spec_l01In_q Q.out _))))));refine onto_end ?_;intro w2 hx2)
     go_wp2_with fail
     go_roundg (l.length - (j+1))
     case measure=>omega
     case rel =>
      refine ⟨j+1,by omega,by go_num,fun z hz=>?_,hx.trans hx2,Hb1.out.ext hx2⟩
      by_cases e:z=j
      ·rw [e];exact NX.out
      ·exact Hno.out z (by omega)
   ·have T:=str_ne e
    have NX:=qh (show ¬ HoldX (nspAt l j) ⟨2,nu,mo,fe,re,wd,st,kg⟩ n from fun hh=>e hh.1)
    clear e
    go_wp2_with fail
    (refine wp_region_onto prog_mixed (by kernel_rfl) ?_;(repeat (go_big_quiet_step ((fail))));refine onto_end ?_;intro w2 hx2)
    go_wp2_with fail
    go_roundg (l.length - (j+1))
    case measure=>omega
    case rel =>
     refine ⟨j+1,by omega,by go_num,fun z hz=>?_,hx.trans hx2,Hb1.out.ext hx2⟩
     by_cases e:z=j
     ·rw [e];exact NX.out
     ·exact Hno.out z (by omega)
  ·have hji:¬ (j:Int) < (l.length:Int):=by omega
   have R:=qh (B_false (fun hh=>by
    obtain ⟨z,hz1,hz2⟩:=E.out.1 hh
    exact Hno.out z (by omega) hz2))
   go_wp2_with fail
   go_ret
   exact ⟨ret_bool (by rw [R.out]),exts⟩
theorem spec_l11Holds (v:Value) (l:List Nsp) (c:Cls) (n:Int) (hc:ClsOk c) (h:0 ≤ n∧n ≤ 730499) (w:World) (hv:Nsps w 0 w.heap.size v l) (hr:∀ i,i < l.length → 0 ≤ (nspAt l i).fr∧(nspAt l i).fr ≤ 730499) :
  Calls Tryz.prog 204 #[v,.agg #[.int .i64 c.ki,.int .i64 c.nu,.int .i64 c.mo,.int .i64 c.fe,.int .i64 c.re,.int .i64 c.wd,.int .i64 c.st,.string c.kg],.int .i64 n] w (RetX (.bool (B (Hold l c n))) w):=by
 obtain ⟨ki,nu,mo,fe,re,wd,st,kg⟩:=c
 rcases hc.1 with ⟨h0,h1⟩ | ⟨h0,h1⟩ | ⟨h0,h1⟩ | ⟨h0,h1⟩ | ⟨h0,h1⟩ | ⟨h0,h1⟩
 all_goals (change ki=_ at h0;subst h0)
 ·exact spec_l11Holds_0 v l nu mo fe re wd st kg n h w
 ·exact spec_l11Holds_1 v l nu mo fe re wd st kg n h1.1 h1.2.1 h1.2.2.1 h w
 ·exact spec_l11Holds_2 w v l nu mo fe re wd st kg n hv hr h
 ·exact spec_l11Holds_3 v l nu mo fe re wd st kg n h1.2 h w
 ·exact spec_l11Holds_4 v l nu mo fe re wd st kg n h1.2 h w
 ·exact spec_l11Holds_5 v l nu mo fe re wd st kg n h w
end Go.Proofs.YtechbeegbhlppaaGreatDoor
