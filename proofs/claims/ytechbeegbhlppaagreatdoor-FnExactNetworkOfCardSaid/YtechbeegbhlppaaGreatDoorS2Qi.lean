/- Texts merged (a claim holds at most sixty files): Qi, Wd, Wf, Qj, Qk, Qs. -/
import Derived.Test.YtechbeegbhlppaaGreatDoorS2Qg
import Derived.Test.YtechbeegbhlppaaGreatDoorS2Qh
import Derived.Test.YtechbeegbhlppaaGreatDoorS2Jg
import Derived.Test.YtechbeegbhlppaaGreatDoorS2Qd
import Derived.Test.YtechbeegbhlppaaGreatDoorS2Kn
import Derived.Deep.DeepCutAuto
import Derived.Test.YtechbeegbhlppaaGreatDoorS2Vv
import Derived.Test.YtechbeegbhlppaaGreatDoorS2Us
import Derived.Test.YtechbeegbhlppaaGreatDoorS2Ka
import Derived.Test.YtechbeegbhlppaaGreatDoorS2De
import Derived.Test.YtechbeegbhlppaaGreatDoorS2G
namespace Go.Proofs.YtechbeegbhlppaaGreatDoor
set_option linter.unusedVariables false
set_option linter.unusedSimpArgs false
open Go.RowKit
attribute [local go_sem] cell_onto
theorem nil_is {a:ByteArray} (h:a=⟨#[]⟩):(a.toList == [])=true:=by rw [(nil_iff a).2 h];rfl
theorem nil_no {a:ByteArray} (h:¬ a=⟨#[]⟩):(a.toList == [])=false:=by
 cases e:(a.toList == []) with
 | false=>rfl
 | true=>exact absurd ((nil_iff a).1 (by simpa using e)) h
def PshOk (W:Wrl) (d:Ded):Prop:=(d.pl=⟨#[]⟩ ∨ 0 ≤ fstIx (fun i=>strAt W.ld.pl i=d.pl) W.ld.pl.length)∧(d.se=⟨#[]⟩ ∨ 0 < (mkL (mdL W.se d.se)).length)∧(d.ha=⟨#[]⟩ ∨ 0 < (mkL (mdL W.ha d.ha)).length)
theorem dedIn_of {W:Wrl} {ds:List Ded} {d:Ded} (h1:NameOk d.nm 12) (h2:DtgOk d.dt) (h3:d.wi.length ≤ 12∧∀ k,k < d.wi.length → 0 ≤ psIx W.pp.ps (witAt d.wi k).pe) (h4:d.ci.length ≤ 8) (h5:PshOk W d) (h6:∀ k,k < d.ci.length → CiteOk ds d k):DedIn W ds d :=
 ⟨h1,h2,h3,h4,h5.1,h5.2.1,h5.2.2,h6⟩
theorem DedIn.psh {W:Wrl} {ds:List Ded} {d:Ded} (h:DedIn W ds d):PshOk W d:=⟨h.2.2.2.2.1,h.2.2.2.2.2.1,h.2.2.2.2.2.2.1⟩
theorem DedIn.cites {W:Wrl} {ds:List Ded} {d:Ded} (h:DedIn W ds d):∀ k,k < d.ci.length → CiteOk ds d k:=h.2.2.2.2.2.2.2
def TwoB (w wx:World) (cw cd:List Value):Prop:=Ext w wx∧Boxed wx w.heap.size cw∧Boxed wx (w.heap.size+1) cd
theorem TwoB.ext {w wx wy:World} {cw cd:List Value} (h:TwoB w wx cw cd) (hx:Ext wx wy):TwoB w wy cw cd:=⟨h.1.trans hx,h.2.1.ext hx,h.2.2.ext hx⟩
set_option maxHeartbeats 1000000 in
theorem impl_isDeed_1 (x:Wit) (vp vt:Value) (P:Ppl) (g:Nat) (w:World) (hg:g < w.heap.size) (h3:w.cell? ⟨g,3,none⟩=some vp) (h4:w.cell? ⟨g,4,none⟩=some vt) (hp:Nsps w 0 w.heap.size vp P.ps) :
  Calls Tryz.prog 198 #[.agg #[.string x.pe,.string x.of],.pointer (some ⟨g,0,none⟩)] w (RetX (.bool (B (psIx P.ps x.pe < 0))) w):=by
 have hg1:g < w.heap.size+1:=by omega
 have Hp:=qh hp
 clear hp
 go_enter Tryz.func198,Tryz.ntmps198
 go_wp2_with fail
 refine Calls.mono (impl_personIndex vp vt P.ps x.pe _ (Hp.out.up exts)) ?_
 rintro e w1 ⟨rfl,hx1⟩
 obtain ⟨r,er⟩:∃ r,psIx P.ps x.pe=r:=⟨_,rfl⟩
 rw [er]
 go_wp2_with fail
 go_ret
 exact ⟨ret_bool (B_eq (by rw [er];simp)),exts⟩
set_option maxRecDepth 100000 in
set_option maxHeartbeats 16000000 in
theorem impl_isDeed (vr vp vt vl vw vs vse vha v:Value) (W:Wrl) (l:List Ded) (i:Nat) (w:World) (h:WrlAt w 0 w.heap.size vr vp vt vl vw vs vse vha W) (hd:Deds w 0 w.heap.size v l) (hi:i < l.length) (hse:MksOk W.se) (hha:MksOk W.ha) :
  Calls Tryz.prog 141 #[.agg #[vr,.int .i64 W.ch.fr,.int .i64 W.ch.to,vp,vt,vl,vw,vs,vse,vha],v,.int .i64 i] w (RetX (.bool (B (DedOk W l i))) w):=by
 obtain ⟨A,c,rfl,hn,hc⟩:=hd.len
 obtain ⟨b,off,vd,vwi,vci,rfl,_,hb,h1,h2,h3,h4,h5,h6,h7,kd,kw,kc⟩:=hd.at_ hi
 obtain ⟨Ad,cd,rfl,hdn,hdc⟩:=kd.len
 obtain ⟨Aw,cw,rfl,hwn,hwc⟩:=kw.len
 obtain ⟨Ac,cc,rfl,hcn,hcc⟩:=kc.len
 have H:=qh h
 have Hd:=qh hd
 have Kd:=qh kd
 have Kw:=qh kw
 have Kc:=qh kc
 have Hse:=qh hse
 have Hha:=qh hha
 clear h hd kd kw kc hse hha
 have hi0:(0:Int) ≤ (i:Int):=by omega
 have hii:(i:Int) < (l.length:Int):=by omega
 obtain ⟨q1,e1⟩:∃ b,B (NameOk (dedAt l i).nm 12)=b:=⟨_,rfl⟩
 have Hq1:=qh e1
 clear e1
 obtain ⟨q3,e3⟩:∃ b,B (DtgOk (dedAt l i).dt)=b:=⟨_,rfl⟩
 have Hq3:=qh e3
 clear e3
 obtain ⟨q6,e6⟩:∃ b,B (0 ≤ fstIx (fun k=>psIx W.pp.ps (witAt (dedAt l i).wi k).pe < 0) (dedAt l i).wi.length)=b:=⟨_,rfl⟩
 have Hq6:=qh e6
 clear e6
 obtain ⟨x,ex⟩:∃ x,ddIx l (dedAt l i).nm=x:=⟨_,rfl⟩
 have Hx:=qh ex
 clear ex
 have T0:=qh (show TwoB w ((w.alloc (.cells #[vr,.int .i64 W.ch.fr,.int .i64 W.ch.to,vp,vt,vl,vw,vs,vse,vha] 56)).alloc (.cells #[.string (dedAt l i).nm,.slice Ad (dedAt l i).dt.length cd,.slice Aw (dedAt l i).wi.length cw,.string (dedAt l i).pl,.string (dedAt l i).se,.string (dedAt l i).ha,.slice Ac (dedAt l i).ci.length cc] 101)) [vr,.int .i64 W.ch.fr,.int .i64 W.ch.to,vp,vt,vl,vw,vs,vse,vha] [.string (dedAt l i).nm,.slice Ad (dedAt l i).dt.length cd,.slice Aw (dedAt l i).wi.length cw,.string (dedAt l i).pl,.string (dedAt l i).se,.string (dedAt l i).ha,.slice Ac (dedAt l i).ci.length cc] from ⟨exts,(Boxed.new w [vr,.int .i64 W.ch.fr,.int .i64 W.ch.to,vp,vt,vl,vw,vs,vse,vha] 56).ext exts,by have t:=Boxed.new (w.alloc (.cells #[vr,.int .i64 W.ch.fr,.int .i64 W.ch.to,vp,vt,vl,vw,vs,vse,vha] 56)) [.string (dedAt l i).nm,.slice Ad (dedAt l i).dt.length cd,.slice Aw (dedAt l i).wi.length cw,.string (dedAt l i).pl,.string (dedAt l i).se,.string (dedAt l i).ha,.slice Ac (dedAt l i).ci.length cc] 101;rw [World.size_alloc] at t;exact t⟩)
 go_enter Tryz.func141,Tryz.ntmps141
 go_wp2_with fail
 refine Calls.mono (impl_isSmall_b Hq1.out _ (by decide)) ?_
 rintro e w1 ⟨rfl,hE⟩
 have T1:=qh (T0.out.ext (show Ext _ w1 from exts))
 have hx1:=T1.out.1
 clear hE
 have a0:=T1.out.2.2.cell 0 rfl
 have a1:=T1.out.2.2.cell 1 rfl
 have a2:=T1.out.2.2.cell 2 rfl
 have a3:=T1.out.2.2.cell 3 rfl
 have a4:=T1.out.2.2.cell 4 rfl
 have a5:=T1.out.2.2.cell 5 rfl
 have a6:=T1.out.2.2.cell 6 rfl
 have b3:=T1.out.2.1.cell 3 rfl
 have b4:=T1.out.2.1.cell 4 rfl
 have b5:=T1.out.2.1.cell 5 rfl
 have b6:=T1.out.2.1.cell 6 rfl
 have b8:=T1.out.2.1.cell 8 rfl
 have b9:=T1.out.2.1.cell 9 rfl
 have ag:=T1.out.2.2.1
 have bg:=T1.out.2.1.1
 cases q1
 case false =>
  go_wp2_with fail
  go_ret
  exact ⟨ret_bool (B_false (fun h=>B_not.1 Hq1.out h.1.1)).symm,exts⟩
 go_wp2_with fail
 refine Calls.mono (impl_deedIndex _ l (dedAt l i).nm _ (Hd.out.up exts)) ?_
 rintro e w2 ⟨rfl,hE⟩
 have T2:=qh (T1.out.ext (show Ext _ w2 from exts))
 have hx2:=T2.out.1
 clear hE
 clear a0 a1 a2 a3 a4 a5 a6 b3 b4 b5 b6 b8 b9 ag bg
 have a0:=T2.out.2.2.cell 0 rfl
 have a1:=T2.out.2.2.cell 1 rfl
 have a2:=T2.out.2.2.cell 2 rfl
 have a3:=T2.out.2.2.cell 3 rfl
 have a4:=T2.out.2.2.cell 4 rfl
 have a5:=T2.out.2.2.cell 5 rfl
 have a6:=T2.out.2.2.cell 6 rfl
 have b3:=T2.out.2.1.cell 3 rfl
 have b4:=T2.out.2.1.cell 4 rfl
 have b5:=T2.out.2.1.cell 5 rfl
 have b6:=T2.out.2.1.cell 6 rfl
 have b8:=T2.out.2.1.cell 8 rfl
 have b9:=T2.out.2.1.cell 9 rfl
 have ag:=T2.out.2.2.1
 have bg:=T2.out.2.1.1
 rw [Hx.out]
 by_cases hxi:x=(i:Int)
 case neg =>
  have n1:(x == (i:Int))=false:=by simpa using hxi
  have n2:decide (x=(i:Int))=false:=decide_eq_false hxi
  have Hxi:=qh (fun h=>hxi (Hx.out.symm.trans ((ded_first hi).2 h)))
  go_wp2_with fail
  go_ret
  exact ⟨ret_bool (B_false (fun h=>Hxi.out h.2)).symm,exts⟩
 subst hxi
 have hfst:=qh ((ded_first hi).1 Hx.out)
 go_wp2_with fail
 refine Calls.mono (impl_IsDating _ (dedAt l i).dt _ (Kd.out.up exts)) ?_
 rintro e w3 ⟨rfl,hE⟩
 have T3:=qh (T2.out.ext (show Ext _ w3 from exts))
 have hx3:=T3.out.1
 clear hE
 clear a0 a1 a2 a3 a4 a5 a6 b3 b4 b5 b6 b8 b9 ag bg
 have a0:=T3.out.2.2.cell 0 rfl
 have a1:=T3.out.2.2.cell 1 rfl
 have a2:=T3.out.2.2.cell 2 rfl
 have a3:=T3.out.2.2.cell 3 rfl
 have a4:=T3.out.2.2.cell 4 rfl
 have a5:=T3.out.2.2.cell 5 rfl
 have a6:=T3.out.2.2.cell 6 rfl
 have b3:=T3.out.2.1.cell 3 rfl
 have b4:=T3.out.2.1.cell 4 rfl
 have b5:=T3.out.2.1.cell 5 rfl
 have b6:=T3.out.2.1.cell 6 rfl
 have b8:=T3.out.2.1.cell 8 rfl
 have b9:=T3.out.2.1.cell 9 rfl
 have ag:=T3.out.2.2.1
 have bg:=T3.out.2.1.1
 rw [Hq3.out]
 cases q3
 case false =>
  go_wp2_with fail
  go_ret
  exact ⟨ret_bool (B_false (fun h=>B_not.1 Hq3.out h.1.2.1)).symm,exts⟩
 by_cases h4:(dedAt l i).wi.length ≤ 12
 case neg =>
  have d4:decide ((12:Int) < ((dedAt l i).wi.length:Int))=true:=decide_eq_true (by omega)
  go_wp2_with fail
  go_ret
  exact ⟨ret_bool (B_false (fun h=>h4 h.1.2.2.1.1)).symm,exts⟩
 have d4:decide ((12:Int) < ((dedAt l i).wi.length:Int))=false:=decide_eq_false (by omega)
 by_cases h5:(dedAt l i).ci.length ≤ 8
 case neg =>
  have d5:decide ((8:Int) < ((dedAt l i).ci.length:Int))=true:=decide_eq_true (by omega)
  go_wp2_with fail
  go_ret
  exact ⟨ret_bool (B_false (fun h=>h5 h.1.2.2.2.1)).symm,exts⟩
 have d5:decide ((8:Int) < ((dedAt l i).ci.length:Int))=false:=decide_eq_false (by omega)
 go_wp2_with fail
 refine Calls.mono (containsFunc_witnesses _ (dedAt l i).wi 198 _ (fun k=>psIx W.pp.ps (witAt (dedAt l i).wi k).pe < 0) _ (Kw.out.up exts) Tryz.call198 (fun k w' hk hxx=>impl_isDeed_1 (witAt (dedAt l i).wi k) vp vt W.pp _ w' (T3.out.2.1.ext hxx).1 ((T3.out.2.1.ext hxx).cell 3 rfl) ((T3.out.2.1.ext hxx).cell 4 rfl) (H.out.up (hx3.trans hxx)).ps)) ?_
 rintro e w4 ⟨rfl,hE⟩
 have T4:=qh (T3.out.ext (show Ext _ w4 from exts))
 have hx4:=T4.out.1
 clear hE
 clear a0 a1 a2 a3 a4 a5 a6 b3 b4 b5 b6 b8 b9 ag bg
 have a0:=T4.out.2.2.cell 0 rfl
 have a1:=T4.out.2.2.cell 1 rfl
 have a2:=T4.out.2.2.cell 2 rfl
 have a3:=T4.out.2.2.cell 3 rfl
 have a4:=T4.out.2.2.cell 4 rfl
 have a5:=T4.out.2.2.cell 5 rfl
 have a6:=T4.out.2.2.cell 6 rfl
 have b3:=T4.out.2.1.cell 3 rfl
 have b4:=T4.out.2.1.cell 4 rfl
 have b5:=T4.out.2.1.cell 5 rfl
 have b6:=T4.out.2.1.cell 6 rfl
 have b8:=T4.out.2.1.cell 8 rfl
 have b9:=T4.out.2.1.cell 9 rfl
 have ag:=T4.out.2.2.1
 have bg:=T4.out.2.1.1
 rw [Hq6.out]
 cases q6
 case true =>
  go_wp2_with fail
  go_ret
  exact ⟨ret_bool (B_false (fun h=>(some_iff (p:=fun k=>0 ≤ psIx W.pp.ps (witAt (dedAt l i).wi k).pe)).2 h.1.2.2.1.2 (by have t:=B_iff.1 Hq6.out;rw [show (fun k=>¬ 0 ≤ psIx W.pp.ps (witAt (dedAt l i).wi k).pe)=(fun k=>psIx W.pp.ps (witAt (dedAt l i).wi k).pe < 0) from funext (fun k=>propext (by omega))];exact t))).symm,exts⟩
 have Hwi:=qh ((some_iff (p:=fun k=>0 ≤ psIx W.pp.ps (witAt (dedAt l i).wi k).pe) (n:=(dedAt l i).wi.length)).1 (by have t:=B_not.1 Hq6.out;rw [show (fun k=>¬ 0 ≤ psIx W.pp.ps (witAt (dedAt l i).wi k).pe)=(fun k=>psIx W.pp.ps (witAt (dedAt l i).wi k).pe < 0) from funext (fun k=>propext (by omega))];exact t))
 go_upto_region 6 with fail
 go_cut [87] (fun s wx=>∃ q:Bool,s=.bool q∧(q=false ↔ PshOk W (dedAt l i))∧TwoB w wx [vr,.int .i64 W.ch.fr,.int .i64 W.ch.to,vp,vt,vl,vw,vs,vse,vha] [.string (dedAt l i).nm,.slice Ad (dedAt l i).dt.length cd,.slice Aw (dedAt l i).wi.length cw,.string (dedAt l i).pl,.string (dedAt l i).se,.string (dedAt l i).ha,.slice Ac (dedAt l i).ci.length cc])
 case first =>
  by_cases hpl:(dedAt l i).pl=⟨#[]⟩
  case pos =>
   have sp:=nil_is hpl
   have sp2:=str_is hpl
   have Hp:=qh hpl
   clear hpl
   by_cases hse:(dedAt l i).se=⟨#[]⟩
   case pos =>
    have ss:=nil_is hse
    have ss2:=str_is hse
    have Hs:=qh hse
    clear hse
    by_cases hha:(dedAt l i).ha=⟨#[]⟩
    case pos =>
     have sh:=nil_is hha
     have sh2:=str_is hha
     have Hh:=qh hha
     clear hha
     go_wp2_with fail
     go_meet
     exact ⟨false,rfl,⟨fun _=>⟨.inl Hp.out,.inl Hs.out,.inl Hh.out⟩,fun _=>rfl⟩,T4.out.ext exts⟩
    have sh:=nil_no hha
    have sh2:=str_ne hha
    have Hh:=qh hha
    clear hha
    go_wp2_with fail
    refine Calls.mono (impl_markDays vha W.ha (dedAt l i).ha _ (H.out.up exts).ha Hha.out) ?_
    rintro e w5 ⟨y5,rfl,hE,ho5⟩
    obtain ⟨Y5,Z5,rfl⟩:=ownsRow_len ho5
    clear ho5
    have T5:=qh (T4.out.ext (show Ext _ w5 from exts))
    have hx5:=T5.out.1
    clear hE
    clear a0 a1 a2 a3 a4 a5 a6 b3 b4 b5 b6 b8 b9 ag bg
    have a0:=T5.out.2.2.cell 0 rfl
    have a1:=T5.out.2.2.cell 1 rfl
    have a2:=T5.out.2.2.cell 2 rfl
    have a3:=T5.out.2.2.cell 3 rfl
    have a4:=T5.out.2.2.cell 4 rfl
    have a5:=T5.out.2.2.cell 5 rfl
    have a6:=T5.out.2.2.cell 6 rfl
    have b3:=T5.out.2.1.cell 3 rfl
    have b4:=T5.out.2.1.cell 4 rfl
    have b5:=T5.out.2.1.cell 5 rfl
    have b6:=T5.out.2.1.cell 6 rfl
    have b8:=T5.out.2.1.cell 8 rfl
    have b9:=T5.out.2.1.cell 9 rfl
    have ag:=T5.out.2.2.1
    have bg:=T5.out.2.1.1
    by_cases hl:0 < (mkL (mdL W.ha (dedAt l i).ha)).length
    case pos =>
     have dl:(((mkL (mdL W.ha (dedAt l i).ha)).length:Int) == 0)=false:=by rw [beq_eq_false_iff_ne];omega
     have dl2:decide (((mkL (mdL W.ha (dedAt l i).ha)).length:Int)=0)=false:=decide_eq_false (by omega)
     have dl3:¬ (((mkL (mdL W.ha (dedAt l i).ha)).length:Int)=0):=by omega
     have Hl:=qh hl
     clear hl
     go_wp2_with fail
     go_meet
     exact ⟨false,rfl,⟨fun _=>⟨.inl Hp.out,.inl Hs.out,.inr Hl.out⟩,fun _=>rfl⟩,T5.out.ext exts⟩
    have dl:(((mkL (mdL W.ha (dedAt l i).ha)).length:Int) == 0)=true:=by rw [beq_iff_eq];omega
    have dl2:decide (((mkL (mdL W.ha (dedAt l i).ha)).length:Int)=0)=true:=decide_eq_true (by omega)
    have dl3:((mkL (mdL W.ha (dedAt l i).ha)).length:Int)=0:=by omega
    have Hl:=qh hl
    clear hl
    go_wp2_with fail
    go_meet
    exact ⟨true,rfl,⟨fun h=>(by cases h),fun h=>(h.2.2.elim (fun e=>absurd e Hh.out) (fun e=>absurd e Hl.out))⟩,T5.out.ext exts⟩
   have ss:=nil_no hse
   have ss2:=str_ne hse
   have Hs:=qh hse
   clear hse
   go_wp2_with fail
   refine Calls.mono (impl_markDays vse W.se (dedAt l i).se _ (H.out.up exts).se Hse.out) ?_
   rintro e w5 ⟨y5,rfl,hE,ho5⟩
   obtain ⟨Y5,Z5,rfl⟩:=ownsRow_len ho5
   clear ho5
   have T5:=qh (T4.out.ext (show Ext _ w5 from exts))
   have hx5:=T5.out.1
   clear hE
   clear a0 a1 a2 a3 a4 a5 a6 b3 b4 b5 b6 b8 b9 ag bg
   have a0:=T5.out.2.2.cell 0 rfl
   have a1:=T5.out.2.2.cell 1 rfl
   have a2:=T5.out.2.2.cell 2 rfl
   have a3:=T5.out.2.2.cell 3 rfl
   have a4:=T5.out.2.2.cell 4 rfl
   have a5:=T5.out.2.2.cell 5 rfl
   have a6:=T5.out.2.2.cell 6 rfl
   have b3:=T5.out.2.1.cell 3 rfl
   have b4:=T5.out.2.1.cell 4 rfl
   have b5:=T5.out.2.1.cell 5 rfl
   have b6:=T5.out.2.1.cell 6 rfl
   have b8:=T5.out.2.1.cell 8 rfl
   have b9:=T5.out.2.1.cell 9 rfl
   have ag:=T5.out.2.2.1
   have bg:=T5.out.2.1.1
   by_cases hl:0 < (mkL (mdL W.se (dedAt l i).se)).length
   case neg =>
    have dl:(((mkL (mdL W.se (dedAt l i).se)).length:Int) == 0)=true:=by rw [beq_iff_eq];omega
    have dl2:decide (((mkL (mdL W.se (dedAt l i).se)).length:Int)=0)=true:=decide_eq_true (by omega)
    have dl3:((mkL (mdL W.se (dedAt l i).se)).length:Int)=0:=by omega
    have Hl:=qh hl
    clear hl
    go_wp2_with fail
    go_meet
    exact ⟨true,rfl,⟨fun h=>(by cases h),fun h=>(h.2.1.elim (fun e=>absurd e Hs.out) (fun e=>absurd e Hl.out))⟩,T5.out.ext exts⟩
   have el:(((mkL (mdL W.se (dedAt l i).se)).length:Int) == 0)=false:=by rw [beq_eq_false_iff_ne];omega
   have el2:decide (((mkL (mdL W.se (dedAt l i).se)).length:Int)=0)=false:=decide_eq_false (by omega)
   have el3:¬ (((mkL (mdL W.se (dedAt l i).se)).length:Int)=0):=by omega
   have Hls:=qh hl
   clear hl
   by_cases hha:(dedAt l i).ha=⟨#[]⟩
   case pos =>
    have sh:=nil_is hha
    have sh2:=str_is hha
    have Hh:=qh hha
    clear hha
    go_wp2_with fail
    go_meet
    exact ⟨false,rfl,⟨fun _=>⟨.inl Hp.out,.inr Hls.out,.inl Hh.out⟩,fun _=>rfl⟩,T5.out.ext exts⟩
   have sh:=nil_no hha
   have sh2:=str_ne hha
   have Hh:=qh hha
   clear hha
   go_wp2_with fail
   refine Calls.mono (impl_markDays vha W.ha (dedAt l i).ha _ (H.out.up exts).ha Hha.out) ?_
   rintro e w6 ⟨y6,rfl,hE,ho6⟩
   obtain ⟨Y6,Z6,rfl⟩:=ownsRow_len ho6
   clear ho6
   have T6:=qh (T5.out.ext (show Ext _ w6 from exts))
   have hx6:=T6.out.1
   clear hE
   clear a0 a1 a2 a3 a4 a5 a6 b3 b4 b5 b6 b8 b9 ag bg
   have a0:=T6.out.2.2.cell 0 rfl
   have a1:=T6.out.2.2.cell 1 rfl
   have a2:=T6.out.2.2.cell 2 rfl
   have a3:=T6.out.2.2.cell 3 rfl
   have a4:=T6.out.2.2.cell 4 rfl
   have a5:=T6.out.2.2.cell 5 rfl
   have a6:=T6.out.2.2.cell 6 rfl
   have b3:=T6.out.2.1.cell 3 rfl
   have b4:=T6.out.2.1.cell 4 rfl
   have b5:=T6.out.2.1.cell 5 rfl
   have b6:=T6.out.2.1.cell 6 rfl
   have b8:=T6.out.2.1.cell 8 rfl
   have b9:=T6.out.2.1.cell 9 rfl
   have ag:=T6.out.2.2.1
   have bg:=T6.out.2.1.1
   by_cases hl:0 < (mkL (mdL W.ha (dedAt l i).ha)).length
   case pos =>
    have dl:(((mkL (mdL W.ha (dedAt l i).ha)).length:Int) == 0)=false:=by rw [beq_eq_false_iff_ne];omega
    have dl2:decide (((mkL (mdL W.ha (dedAt l i).ha)).length:Int)=0)=false:=decide_eq_false (by omega)
    have dl3:¬ (((mkL (mdL W.ha (dedAt l i).ha)).length:Int)=0):=by omega
    have Hl:=qh hl
    clear hl
    go_wp2_with fail
    go_meet
    exact ⟨false,rfl,⟨fun _=>⟨.inl Hp.out,.inr Hls.out,.inr Hl.out⟩,fun _=>rfl⟩,T6.out.ext exts⟩
   have dl:(((mkL (mdL W.ha (dedAt l i).ha)).length:Int) == 0)=true:=by rw [beq_iff_eq];omega
   have dl2:decide (((mkL (mdL W.ha (dedAt l i).ha)).length:Int)=0)=true:=decide_eq_true (by omega)
   have dl3:((mkL (mdL W.ha (dedAt l i).ha)).length:Int)=0:=by omega
   have Hl:=qh hl
   clear hl
   go_wp2_with fail
   go_meet
   exact ⟨true,rfl,⟨fun h=>(by cases h),fun h=>(h.2.2.elim (fun e=>absurd e Hh.out) (fun e=>absurd e Hl.out))⟩,T6.out.ext exts⟩
  have sp:=nil_no hpl
  have sp2:=str_ne hpl
  have Hp:=qh hpl
  clear hpl
  obtain ⟨q7,e7⟩:∃ b,B (0 ≤ fstIx (fun k=>strAt W.ld.pl k=(dedAt l i).pl) W.ld.pl.length)=b:=⟨_,rfl⟩
  have Hq7:=qh e7
  clear e7
  go_wp2_with fail
  refine Calls.mono (slices_Contains_strs vl W.ld.pl (dedAt l i).pl _ (H.out.up exts).pl) ?_
  rintro e w5 ⟨rfl,hE⟩
  have T5:=qh (T4.out.ext (show Ext _ w5 from exts))
  have hx5:=T5.out.1
  clear hE
  clear a0 a1 a2 a3 a4 a5 a6 b3 b4 b5 b6 b8 b9 ag bg
  have a0:=T5.out.2.2.cell 0 rfl
  have a1:=T5.out.2.2.cell 1 rfl
  have a2:=T5.out.2.2.cell 2 rfl
  have a3:=T5.out.2.2.cell 3 rfl
  have a4:=T5.out.2.2.cell 4 rfl
  have a5:=T5.out.2.2.cell 5 rfl
  have a6:=T5.out.2.2.cell 6 rfl
  have b3:=T5.out.2.1.cell 3 rfl
  have b4:=T5.out.2.1.cell 4 rfl
  have b5:=T5.out.2.1.cell 5 rfl
  have b6:=T5.out.2.1.cell 6 rfl
  have b8:=T5.out.2.1.cell 8 rfl
  have b9:=T5.out.2.1.cell 9 rfl
  have ag:=T5.out.2.2.1
  have bg:=T5.out.2.1.1
  rw [Hq7.out]
  cases q7
  case false =>
   go_wp2_with fail
   go_meet
   exact ⟨true,rfl,⟨fun h=>(by cases h),fun h=>(h.1.elim (fun e=>absurd e Hp.out) (fun e=>absurd e (B_not.1 Hq7.out)))⟩,T5.out.ext exts⟩
  by_cases hse:(dedAt l i).se=⟨#[]⟩
  case pos =>
   have ss:=nil_is hse
   have ss2:=str_is hse
   have Hs:=qh hse
   clear hse
   by_cases hha:(dedAt l i).ha=⟨#[]⟩
   case pos =>
    have sh:=nil_is hha
    have sh2:=str_is hha
    have Hh:=qh hha
    clear hha
    go_wp2_with fail
    go_meet
    exact ⟨false,rfl,⟨fun _=>⟨.inr (B_iff.1 Hq7.out),.inl Hs.out,.inl Hh.out⟩,fun _=>rfl⟩,T5.out.ext exts⟩
   have sh:=nil_no hha
   have sh2:=str_ne hha
   have Hh:=qh hha
   clear hha
   go_wp2_with fail
   refine Calls.mono (impl_markDays vha W.ha (dedAt l i).ha _ (H.out.up exts).ha Hha.out) ?_
   rintro e w6 ⟨y6,rfl,hE,ho6⟩
   obtain ⟨Y6,Z6,rfl⟩:=ownsRow_len ho6
   clear ho6
   have T6:=qh (T5.out.ext (show Ext _ w6 from exts))
   have hx6:=T6.out.1
   clear hE
   clear a0 a1 a2 a3 a4 a5 a6 b3 b4 b5 b6 b8 b9 ag bg
   have a0:=T6.out.2.2.cell 0 rfl
   have a1:=T6.out.2.2.cell 1 rfl
   have a2:=T6.out.2.2.cell 2 rfl
   have a3:=T6.out.2.2.cell 3 rfl
   have a4:=T6.out.2.2.cell 4 rfl
   have a5:=T6.out.2.2.cell 5 rfl
   have a6:=T6.out.2.2.cell 6 rfl
   have b3:=T6.out.2.1.cell 3 rfl
   have b4:=T6.out.2.1.cell 4 rfl
   have b5:=T6.out.2.1.cell 5 rfl
   have b6:=T6.out.2.1.cell 6 rfl
   have b8:=T6.out.2.1.cell 8 rfl
   have b9:=T6.out.2.1.cell 9 rfl
   have ag:=T6.out.2.2.1
   have bg:=T6.out.2.1.1
   by_cases hl:0 < (mkL (mdL W.ha (dedAt l i).ha)).length
   case pos =>
    have dl:(((mkL (mdL W.ha (dedAt l i).ha)).length:Int) == 0)=false:=by rw [beq_eq_false_iff_ne];omega
    have dl2:decide (((mkL (mdL W.ha (dedAt l i).ha)).length:Int)=0)=false:=decide_eq_false (by omega)
    have dl3:¬ (((mkL (mdL W.ha (dedAt l i).ha)).length:Int)=0):=by omega
    have Hl:=qh hl
    clear hl
    go_wp2_with fail
    go_meet
    exact ⟨false,rfl,⟨fun _=>⟨.inr (B_iff.1 Hq7.out),.inl Hs.out,.inr Hl.out⟩,fun _=>rfl⟩,T6.out.ext exts⟩
   have dl:(((mkL (mdL W.ha (dedAt l i).ha)).length:Int) == 0)=true:=by rw [beq_iff_eq];omega
   have dl2:decide (((mkL (mdL W.ha (dedAt l i).ha)).length:Int)=0)=true:=decide_eq_true (by omega)
   have dl3:((mkL (mdL W.ha (dedAt l i).ha)).length:Int)=0:=by omega
   have Hl:=qh hl
   clear hl
   go_wp2_with fail
   go_meet
   exact ⟨true,rfl,⟨fun h=>(by cases h),fun h=>(h.2.2.elim (fun e=>absurd e Hh.out) (fun e=>absurd e Hl.out))⟩,T6.out.ext exts⟩
  have ss:=nil_no hse
  have ss2:=str_ne hse
  have Hs:=qh hse
  clear hse
  go_wp2_with fail
  refine Calls.mono (impl_markDays vse W.se (dedAt l i).se _ (H.out.up exts).se Hse.out) ?_
  rintro e w6 ⟨y6,rfl,hE,ho6⟩
  obtain ⟨Y6,Z6,rfl⟩:=ownsRow_len ho6
  clear ho6
  have T6:=qh (T5.out.ext (show Ext _ w6 from exts))
  have hx6:=T6.out.1
  clear hE
  clear a0 a1 a2 a3 a4 a5 a6 b3 b4 b5 b6 b8 b9 ag bg
  have a0:=T6.out.2.2.cell 0 rfl
  have a1:=T6.out.2.2.cell 1 rfl
  have a2:=T6.out.2.2.cell 2 rfl
  have a3:=T6.out.2.2.cell 3 rfl
  have a4:=T6.out.2.2.cell 4 rfl
  have a5:=T6.out.2.2.cell 5 rfl
  have a6:=T6.out.2.2.cell 6 rfl
  have b3:=T6.out.2.1.cell 3 rfl
  have b4:=T6.out.2.1.cell 4 rfl
  have b5:=T6.out.2.1.cell 5 rfl
  have b6:=T6.out.2.1.cell 6 rfl
  have b8:=T6.out.2.1.cell 8 rfl
  have b9:=T6.out.2.1.cell 9 rfl
  have ag:=T6.out.2.2.1
  have bg:=T6.out.2.1.1
  by_cases hl:0 < (mkL (mdL W.se (dedAt l i).se)).length
  case neg =>
   have dl:(((mkL (mdL W.se (dedAt l i).se)).length:Int) == 0)=true:=by rw [beq_iff_eq];omega
   have dl2:decide (((mkL (mdL W.se (dedAt l i).se)).length:Int)=0)=true:=decide_eq_true (by omega)
   have dl3:((mkL (mdL W.se (dedAt l i).se)).length:Int)=0:=by omega
   have Hl:=qh hl
   clear hl
   go_wp2_with fail
   go_meet
   exact ⟨true,rfl,⟨fun h=>(by cases h),fun h=>(h.2.1.elim (fun e=>absurd e Hs.out) (fun e=>absurd e Hl.out))⟩,T6.out.ext exts⟩
  have el:(((mkL (mdL W.se (dedAt l i).se)).length:Int) == 0)=false:=by rw [beq_eq_false_iff_ne];omega
  have el2:decide (((mkL (mdL W.se (dedAt l i).se)).length:Int)=0)=false:=decide_eq_false (by omega)
  have el3:¬ (((mkL (mdL W.se (dedAt l i).se)).length:Int)=0):=by omega
  have Hls:=qh hl
  clear hl
  by_cases hha:(dedAt l i).ha=⟨#[]⟩
  case pos =>
   have sh:=nil_is hha
   have sh2:=str_is hha
   have Hh:=qh hha
   clear hha
   go_wp2_with fail
   go_meet
   exact ⟨false,rfl,⟨fun _=>⟨.inr (B_iff.1 Hq7.out),.inr Hls.out,.inl Hh.out⟩,fun _=>rfl⟩,T6.out.ext exts⟩
  have sh:=nil_no hha
  have sh2:=str_ne hha
  have Hh:=qh hha
  clear hha
  go_wp2_with fail
  refine Calls.mono (impl_markDays vha W.ha (dedAt l i).ha _ (H.out.up exts).ha Hha.out) ?_
  rintro e w7 ⟨y7,rfl,hE,ho7⟩
  obtain ⟨Y7,Z7,rfl⟩:=ownsRow_len ho7
  clear ho7
  have T7:=qh (T6.out.ext (show Ext _ w7 from exts))
  have hx7:=T7.out.1
  clear hE
  clear a0 a1 a2 a3 a4 a5 a6 b3 b4 b5 b6 b8 b9 ag bg
  have a0:=T7.out.2.2.cell 0 rfl
  have a1:=T7.out.2.2.cell 1 rfl
  have a2:=T7.out.2.2.cell 2 rfl
  have a3:=T7.out.2.2.cell 3 rfl
  have a4:=T7.out.2.2.cell 4 rfl
  have a5:=T7.out.2.2.cell 5 rfl
  have a6:=T7.out.2.2.cell 6 rfl
  have b3:=T7.out.2.1.cell 3 rfl
  have b4:=T7.out.2.1.cell 4 rfl
  have b5:=T7.out.2.1.cell 5 rfl
  have b6:=T7.out.2.1.cell 6 rfl
  have b8:=T7.out.2.1.cell 8 rfl
  have b9:=T7.out.2.1.cell 9 rfl
  have ag:=T7.out.2.2.1
  have bg:=T7.out.2.1.1
  by_cases hl:0 < (mkL (mdL W.ha (dedAt l i).ha)).length
  case pos =>
   have dl:(((mkL (mdL W.ha (dedAt l i).ha)).length:Int) == 0)=false:=by rw [beq_eq_false_iff_ne];omega
   have dl2:decide (((mkL (mdL W.ha (dedAt l i).ha)).length:Int)=0)=false:=decide_eq_false (by omega)
   have dl3:¬ (((mkL (mdL W.ha (dedAt l i).ha)).length:Int)=0):=by omega
   have Hl:=qh hl
   clear hl
   go_wp2_with fail
   go_meet
   exact ⟨false,rfl,⟨fun _=>⟨.inr (B_iff.1 Hq7.out),.inr Hls.out,.inr Hl.out⟩,fun _=>rfl⟩,T7.out.ext exts⟩
  have dl:(((mkL (mdL W.ha (dedAt l i).ha)).length:Int) == 0)=true:=by rw [beq_iff_eq];omega
  have dl2:decide (((mkL (mdL W.ha (dedAt l i).ha)).length:Int)=0)=true:=decide_eq_true (by omega)
  have dl3:((mkL (mdL W.ha (dedAt l i).ha)).length:Int)=0:=by omega
  have Hl:=qh hl
  clear hl
  go_wp2_with fail
  go_meet
  exact ⟨true,rfl,⟨fun h=>(by cases h),fun h=>(h.2.2.elim (fun e=>absurd e Hh.out) (fun e=>absurd e Hl.out))⟩,T7.out.ext exts⟩
 case rest =>
  obtain ⟨q8,rfl,hq8,hT⟩:=hcut
  have Hq8:=qh hq8
  have T5:=qh hT
  have hx5:=T5.out.1
  clear hq8 hT
  clear a0 a1 a2 a3 a4 a5 a6 b3 b4 b5 b6 b8 b9 ag bg
  have a0:=T5.out.2.2.cell 0 rfl
  have a1:=T5.out.2.2.cell 1 rfl
  have a2:=T5.out.2.2.cell 2 rfl
  have a3:=T5.out.2.2.cell 3 rfl
  have a4:=T5.out.2.2.cell 4 rfl
  have a5:=T5.out.2.2.cell 5 rfl
  have a6:=T5.out.2.2.cell 6 rfl
  have b3:=T5.out.2.1.cell 3 rfl
  have b4:=T5.out.2.1.cell 4 rfl
  have b5:=T5.out.2.1.cell 5 rfl
  have b6:=T5.out.2.1.cell 6 rfl
  have b8:=T5.out.2.1.cell 8 rfl
  have b9:=T5.out.2.1.cell 9 rfl
  have ag:=T5.out.2.2.1
  have bg:=T5.out.2.1.1
  cases q8
  case true =>
   go_wp2_with fail
   go_ret
   exact ⟨ret_bool (B_false (fun h=>Bool.noConfusion (Hq8.out.2 h.1.psh))).symm,exts⟩
  have Hpsh:=qh (Hq8.out.1 rfl)
  go_wp2_with fail
  go_loopg [8,9,91] (dedAt l i).ci.length (fun q u8 u9 n wr=>∃ j:Nat,j+q=(dedAt l i).ci.length∧n=.int .i64 j∧TwoB w wr [vr,.int .i64 W.ch.fr,.int .i64 W.ch.to,vp,vt,vl,vw,vs,vse,vha] [.string (dedAt l i).nm,.slice Ad (dedAt l i).dt.length cd,.slice Aw (dedAt l i).wi.length cw,.string (dedAt l i).pl,.string (dedAt l i).se,.string (dedAt l i).ha,.slice Ac (dedAt l i).ci.length cc]∧∀ k,k < j → CiteOk l (dedAt l i) k)
  case atStart=>exact ⟨0,by omega,rfl,T5.out.ext exts,fun i hi=>absurd hi (by omega)⟩
  case round =>
   obtain ⟨j,hj,rfl,hT,hok⟩:=hrel
   have Hok:=qh hok
   have T6:=qh hT
   have hx6:=T6.out.1
   clear hok hT
   clear a0 a1 a2 a3 a4 a5 a6 b3 b4 b5 b6 b8 b9 ag bg
   have a0:=T6.out.2.2.cell 0 rfl
   have a1:=T6.out.2.2.cell 1 rfl
   have a2:=T6.out.2.2.cell 2 rfl
   have a3:=T6.out.2.2.cell 3 rfl
   have a4:=T6.out.2.2.cell 4 rfl
   have a5:=T6.out.2.2.cell 5 rfl
   have a6:=T6.out.2.2.cell 6 rfl
   have b3:=T6.out.2.1.cell 3 rfl
   have b4:=T6.out.2.1.cell 4 rfl
   have b5:=T6.out.2.1.cell 5 rfl
   have b6:=T6.out.2.1.cell 6 rfl
   have b8:=T6.out.2.1.cell 8 rfl
   have b9:=T6.out.2.1.cell 9 rfl
   have ag:=T6.out.2.2.1
   have bg:=T6.out.2.1.1
   have hj0:(0:Int) ≤ (j:Int):=by omega
   by_cases hlt:j < (dedAt l i).ci.length
   case neg =>
    obtain rfl:j=(dedAt l i).ci.length:=by omega
    have hji:¬ ((dedAt l i).ci.length:Int) < ((dedAt l i).ci.length:Int):=by omega
    go_wp2_with fail
    go_ret
    exact ⟨ret_bool (B_true ⟨dedIn_of (B_iff.1 Hq1.out) (B_iff.1 Hq3.out) ⟨h4,Hwi.out⟩ h5 Hpsh.out Hok.out,hfst.out⟩).symm,exts⟩
   have hji:(j:Int) < ((dedAt l i).ci.length:Int):=by omega
   have hjl:(j:Int) ≤ ((dedAt l i).ci.length:Int):=by omega
   have hjc:(j:Int) ≤ (cc:Int):=by omega
   have hjc2:j ≤ cc:=by omega
   have Kr:=qh (Kc.out.up hx6)
   obtain ⟨bc,oc,eA,_,hbc,g1⟩:=Kr.out.at_ hlt
   subst eA
   have Htk:=qh (Strs.take Kr.out (Nat.le_of_lt hlt))
   obtain ⟨nm,enm⟩:∃ s,strAt (dedAt l i).ci j=s:=⟨_,rfl⟩
   obtain ⟨r,er⟩:∃ r,fstIx (fun k=>strAt ((dedAt l i).ci.take j) k=nm) ((dedAt l i).ci.take j).length=r:=⟨_,rfl⟩
   have Hdup:=qh (dup_iff (l:=(dedAt l i).ci) (j:=j) (Nat.le_of_lt hlt))
   rw [enm,er] at Hdup
   rw [enm] at g1
   have Hnm:=qh enm
   have Hr:=qh er
   clear enm er
   have Hct:=qh (fun W0 (hX:Ext wr W0)=>show Calls Tryz.prog 199 #[.slice (some ⟨bc,oc,none⟩) j cc,.string nm] W0 (RetX (.bool (B (0 ≤ r))) W0) from by rw [← Hr.out];exact slices_Contains_strs _ ((dedAt l i).ci.take j) nm W0 (Htk.out.up hX))
   clear Kr
   by_cases e1:nm=(dedAt l i).nm
   case pos =>
    have s1:=str_is e1
    have E1:=qh e1
    clear e1
    go_wp2_with fail
    go_ret
    exact ⟨ret_bool (B_false (fun h=>(h.1.cites j hlt).1 (Hnm.out.trans E1.out))).symm,exts⟩
   have s1:=str_ne e1
   have E1:=qh e1
   clear e1
   obtain ⟨y,ey⟩:∃ y,ddIx l nm=y:=⟨_,rfl⟩
   have Hy:=qh ey
   clear ey
   go_wp2_with fail
   refine Calls.mono (impl_deedIndex _ l nm _ (Hd.out.up exts)) ?_
   rintro e w7 ⟨rfl,hr7⟩
   have T7:=qh (T6.out.ext hr7)
   have hx7:=T7.out.1
   clear a0 a1 a2 a3 a4 a5 a6 b3 b4 b5 b6 b8 b9 ag bg
   have a0:=T7.out.2.2.cell 0 rfl
   have a1:=T7.out.2.2.cell 1 rfl
   have a2:=T7.out.2.2.cell 2 rfl
   have a3:=T7.out.2.2.cell 3 rfl
   have a4:=T7.out.2.2.cell 4 rfl
   have a5:=T7.out.2.2.cell 5 rfl
   have a6:=T7.out.2.2.cell 6 rfl
   have b3:=T7.out.2.1.cell 3 rfl
   have b4:=T7.out.2.1.cell 4 rfl
   have b5:=T7.out.2.1.cell 5 rfl
   have b6:=T7.out.2.1.cell 6 rfl
   have b8:=T7.out.2.1.cell 8 rfl
   have b9:=T7.out.2.1.cell 9 rfl
   have ag:=T7.out.2.2.1
   have bg:=T7.out.2.1.1
   rw [Hy.out]
   by_cases hy:y < 0
   case pos =>
    have dy:decide (y < 0)=true:=decide_eq_true hy
    go_wp2_with fail
    go_ret
    exact ⟨ret_bool (B_false (fun h=>by have t:=(h.1.cites j hlt).2.1;rw [Hnm.out,Hy.out] at t;omega)).symm,exts⟩
   have dy:decide (y < 0)=false:=decide_eq_false hy
   go_wp2_with fail
   refine Calls.mono (Hct.out _ hr7) ?_
   rintro e w8 ⟨rfl,hE⟩
   have T8:=qh (T7.out.ext (show Ext _ w8 from exts))
   have hx8:=T8.out.1
   clear hE
   clear a0 a1 a2 a3 a4 a5 a6 b3 b4 b5 b6 b8 b9 ag bg
   have a0:=T8.out.2.2.cell 0 rfl
   have a1:=T8.out.2.2.cell 1 rfl
   have a2:=T8.out.2.2.cell 2 rfl
   have a3:=T8.out.2.2.cell 3 rfl
   have a4:=T8.out.2.2.cell 4 rfl
   have a5:=T8.out.2.2.cell 5 rfl
   have a6:=T8.out.2.2.cell 6 rfl
   have b3:=T8.out.2.1.cell 3 rfl
   have b4:=T8.out.2.1.cell 4 rfl
   have b5:=T8.out.2.1.cell 5 rfl
   have b6:=T8.out.2.1.cell 6 rfl
   have b8:=T8.out.2.1.cell 8 rfl
   have b9:=T8.out.2.1.cell 9 rfl
   have ag:=T8.out.2.2.1
   have bg:=T8.out.2.1.1
   by_cases hr:0 ≤ r
   case pos =>
    rw [B_true hr]
    go_wp2_with fail
    go_ret
    exact ⟨ret_bool (B_false (fun h=>(Hdup.out.1 hr) (by have t:=(h.1.cites j hlt).2.2;rw [Hnm.out] at t;exact t))).symm,exts⟩
   rw [B_false hr]
   go_wp2_with fail
   go_roundg ((dedAt l i).ci.length - (j+1))
   case measure=>omega
   case rel =>
    refine ⟨j+1,by omega,by go_num,T8.out.ext exts,fun k hk=>?_⟩
    by_cases e:k=j
    ·subst e
     refine ⟨by rw [Hnm.out];exact E1.out,by rw [Hnm.out,Hy.out];omega,?_⟩
     rw [Hnm.out]
     exact Classical.byContradiction (fun hn=>by have:=Hdup.out.2 hn;omega)
    ·exact Hok.out k (by omega)
set_option maxRecDepth 100000 in
set_option maxHeartbeats 4000000 in
theorem impl_termsOf (vp vt:Value) (p:Ppl) (o pe:ByteArray) (w:World) (h:Trms w 0 w.heap.size vt p.tm) (hok:PplOk p) (hne:pe ≠ ⟨#[]⟩):Calls Tryz.prog 173 #[.agg #[vp,vt],.string o,.string pe] w (NewOwn 111 2 (tmL p.tm o pe).length (spanCell (tmL p.tm o pe)) w):=by
 obtain ⟨A,c,rfl,hn,hc⟩:=h.len
 obtain ⟨l,hl⟩:∃ l,l=p.tm:=⟨_,rfl⟩
 have hl60:l.length ≤ 60:=by rw [hl];exact hok.2.1
 rw [← hl] at h hn hc ⊢
 have H:=qh h
 have P1:=nil_no hne
 have P2:=str_ne hne
 clear h hok hl
 go_enter Tryz.func173,Tryz.ntmps173
 go_wp2_with fail
 go_loopg [7,9,14] l.length (fun q u7 u9 i wr=>∃ j:Nat,j+q=l.length∧i=.int .i64 j∧Ext (w.alloc (.cells #[vp,.slice A l.length c] 49)) wr∧Hid (RowSp wr (w.heap.size+1) 111 u7 (tmTo l o pe j)))
 case atStart =>
  refine ⟨0,by omega,rfl,(Ext.refl _).alloc _,qh ?_⟩
  have:=rowSp0 (w.alloc (.cells #[vp,.slice A l.length c] 49)) 111
  rw [World.size_alloc] at this
  exact this
 case round =>
  obtain ⟨j,hj,rfl,hx,Hr⟩:=hrel
  obtain ⟨A5,c5,rfl⟩:=ownsRow_len Hr.out
  have HX:=qh (show Ext w wr from exts)
  have Hx:=qh hx
  have hz:=hx.size
  rw [World.size_alloc] at hz
  clear hx
  by_cases hlt:j < l.length
  ·obtain ⟨b,off,rfl,_,hb,h1,h2,h3,h4⟩:=(H.out.ext HX.out (Nat.le_refl _)).at_ hlt
   have hbr:b < wr.heap.size:=Nat.lt_of_lt_of_le hb HX.out.size
   have hsl:(tmTo l o pe j).length ≤ 60:=by have:=tmTo_len l o pe j;omega
   have hji:(j:Int) < (l.length:Int):=by omega
   by_cases he:(trmAt l j).of=o∧(trmAt l j).pe=pe
   ·have T2:=str_is he.1
    have T3:=str_is he.2
    have Hm:=qh (tmTo_yes he)
    clear he
    have Hxw:=qh (Hx.out.trans ((Ext.refl wr).alloc (.cells #[.string (trmAt l j).of,.string (trmAt l j).pe,.int .i64 (trmAt l j).fr,.int .i64 (trmAt l j).to] 228)))
    have HrW:=qh (Hr.out.ext ((Ext.refl wr).alloc (.cells #[.string (trmAt l j).of,.string (trmAt l j).pe,.int .i64 (trmAt l j).fr,.int .i64 (trmAt l j).to] 228)))
    have Hsrc:Hid (Row ((wr.alloc (.cells #[.string (trmAt l j).of,.string (trmAt l j).pe,.int .i64 (trmAt l j).fr,.int .i64 (trmAt l j).to] 228)).alloc (.cells #[.int .i64 (trmAt l j).fr,.int .i64 (trmAt l j).to] 111)) 0 (wr.heap.size+1+1) 2 (.slice (some ⟨wr.heap.size+1,0,none⟩) 1 1) 1 (spanCell [⟨(trmAt l j).fr,(trmAt l j).to⟩])):=qh (by
     have h:=(Boxed.new (wr.alloc (.cells #[.string (trmAt l j).of,.string (trmAt l j).pe,.int .i64 (trmAt l j).fr,.int .i64 (trmAt l j).to] 228)) [.int .i64 (trmAt l j).fr,.int .i64 (trmAt l j).to] 111).row rfl (span_cells _ _)
     simp only [World.size_alloc] at h
     exact h)
    go_wp2_with (at_builtin;refine wpList_append_row _ rfl _ _ 40 rfl (w.heap.size+1) 111 2 16 Tryz.underlying40 (by kernel_rfl) (by omega) _ (tmTo l o pe j).length 1 _ rfl (.inl (row_ext HrW.out exts)) (.inr (by omega)) 0 _ _ (spanCell [⟨(trmAt l j).fr,(trmAt l j).to⟩]) rfl Hsrc.out (fun i _=>spanCell_one _ i) (by unfold maxLen;omega) (by omega) (by simp;omega) ?_;intro v5 w5 hown5 hput5;have Hrow5:=qh (RowSp.push hown5);have Hx5:=qh (hput5.ext (Hxw.out.trans exts) (by rw [World.size_alloc];omega));clear hown5 hput5)
    go_roundg (l.length - (j+1))
    case measure=>omega
    case rel=>exact ⟨j+1,by omega,by go_num,Hx5.out,qh (by rw [Hm.out];exact Hrow5.out)⟩
   ·have Hm:=qh (tmTo_no he)
    by_cases e1:(trmAt l j).of=o
    case' pos =>
     have T2:=str_is e1
     have T3:=str_ne (fun hh=>he ⟨e1,hh⟩)
    case' neg =>
     have T2:=str_ne e1
    all_goals
     clear he e1
     go_wp2_with fail
     go_roundg (l.length - (j+1))
     case measure=>omega
     case rel=>exact ⟨j+1,by omega,by go_num,Hx.out.trans exts,qh (by rw [Hm.out];exact Hr.out.ext exts)⟩
  ·obtain rfl:j=l.length:=by omega
   go_wp2_with fail
   go_ret
   exact ⟨_,rfl,HX.out,ownsRow_mono Hr.out (Nat.le_succ _)⟩
def NewSpsB (T:TypeId) (l:List Sp) (b:Bool) (w:World) (e:Ending) (w' : World):Prop:=∃ v,e=.returned (.tuple #[v,.bool b])∧Ext w w' ∧ w'.ownsRow w.heap.size T 2 v l.length (cellsOf (l.length * 2) (spanCell l))
set_option maxRecDepth 100000 in
set_option maxHeartbeats 4000000 in
theorem impl_witnessDays (vp vt:Value) (p:Ppl) (x:Wit) (w:World) (hp:Nsps w 0 w.heap.size vp p.ps) (ht:Trms w 0 w.heap.size vt p.tm) (hok:PplOk p) (hx:0 ≤ psIx p.ps x.pe) :
  Calls Tryz.prog 115 #[.agg #[vp,vt],.agg #[.string x.pe,.string x.of]] w (NewSpsB 111 (wdL p x) true w):=by
 obtain ⟨A,c,rfl,hn,hc⟩:=hp.len
 obtain ⟨A2,c2,rfl,hn2,hc2⟩:=ht.len
 have Hp:=qh hp
 have Ht:=qh ht
 have Hok:=qh hok
 have Hne:Hid (x.pe ≠ ⟨#[]⟩):=qh (fun hh=>by
  have h1:=(hok.2.2.1 _ (psIx_lt hx).1).1.1
  have h2:(nspAt p.ps (psIx p.ps x.pe).toNat).nm=x.pe:=by
   unfold psIx at hx ⊢
   rcases fstIx_cases (fun i=>(nspAt p.ps i).nm=x.pe) p.ps.length with ⟨h3,_⟩ | ⟨j,h3,h4,h5,_⟩
   ·omega
   ·rw [h4];exact h5
  rw [h2,hh] at h1
  exact absurd h1.1 (by decide))
 have Hi:=qh (psIx_lt hx)
 have Hwd:Hid (wdL p x=if x.of=⟨#[]⟩ then oneS (nspAt p.ps (psIx p.ps x.pe).toNat).fr (nspAt p.ps (psIx p.ps x.pe).toNat).to else mkL (tmL p.tm x.of x.pe)):=qh rfl
 clear hp ht hok
 go_enter Tryz.func115,Tryz.ntmps115
 go_wp2_with fail
 refine Calls.mono (impl_personIndex _ _ p.ps x.pe _ (Hp.out.up exts)) ?_
 rintro e w1 ⟨rfl,hx1⟩
 obtain ⟨i,hi⟩:∃ i,psIx p.ps x.pe=i:=⟨_,rfl⟩
 rw [hi] at hx Hwd Hi ⊢
 clear hi
 obtain ⟨hi1,hi2⟩:=Hi.out
 have T0:decide (i < 0)=false:=decide_eq_false (by omega)
 have BT1:=((Boxed.new w [.slice A p.ps.length c,.slice A2 p.tm.length c2] 49).ext ((Ext.refl _).alloc (.cells #[.string x.pe,.string x.of] 170))).ext hx1
 have BT2:=(Boxed.new (w.alloc (.cells #[.slice A p.ps.length c,.slice A2 p.tm.length c2] 49)) [.string x.pe,.string x.of] 170).ext hx1
 rw [World.size_alloc] at BT2
 have k0:=BT1.at0
 have k1:=BT1.at1
 have kg:=BT1.1
 have m0:=BT2.at0
 have m1:=BT2.at1
 have mg:=BT2.1
 have HB1:=qh BT1
 have HB2:=qh BT2
 have HX1:=qh (show Ext w w1 from exts)
 clear BT1 BT2 hx1
 have hz1:=HX1.out.size
 by_cases he:x.of=⟨#[]⟩
 ·have S1:=nil_is he
  have S2:=str_is he
  have Hw:Hid (wdL p x=oneS (nspAt p.ps i.toNat).fr (nspAt p.ps i.toNat).to):=qh (by rw [Hwd.out,if_pos he])
  clear he Hwd
  obtain ⟨b,off,rfl,_,hb,h1,h2,h3⟩:=(Hp.out.ext HX1.out (Nat.le_refl _)).at_ hi1
  have hbr:b < w1.heap.size:=Nat.lt_of_lt_of_le hb hz1
  have j0:i < (p.ps.length:Int):=by omega
  go_wp2_with fail
  go_region
  go_wp2_with fail
  go_ret2
  rw [Hw.out]
  exact ⟨_,rfl,HX1.out.trans exts,ownsRow_mono (RowSp.ext (rowSp1 w1 111 _ _) exts) hz1⟩
 ·have S1:=nil_no he
  have S2:=str_ne he
  have Hw:Hid (wdL p x=mkL (tmL p.tm x.of x.pe)):=qh (by rw [Hwd.out,if_neg he])
  clear he Hwd
  go_wp2_with fail
  refine Calls.mono (impl_termsOf _ _ p x.of x.pe _ (Ht.out.up HX1.out) Hok.out Hne.out) ?_
  rintro e w2 ⟨u,rfl,hx2,ho⟩
  have Hb:=qh (tmL_ok Hok.out x.of x.pe)
  have Hbd:=qh (spOk_bd Hb.out.2)
  have Hu:Hid (RowSp w2 w1.heap.size 111 u (tmL p.tm x.of x.pe)):=qh ho
  clear ho
  go_wp2_with fail
  refine Calls.mono (impl_united _ (tmL p.tm x.of x.pe) _ (Hu.out.read) (by have:=Hb.out.1;omega) Hbd.out.1 Hbd.out.2) ?_
  rintro e w3 ⟨u3,rfl,hx3,ho3⟩
  have Ho3:=qh ho3
  clear ho3
  go_wp2_with fail
  go_ret2
  rw [Hw.out]
  exact ⟨_,rfl,(HX1.out.trans hx2).trans hx3,ownsRow_mono Ho3.out (by have:=hx2.size;omega)⟩
structure AddSt (T:TypeId) (W:World) (g:Nat) (O:List Sp) (u:Value) (w:World):Prop where
 hg:W.heap.size ≤ g
 bx:Boxed w g [u]
 ex:Ext W w
 row:RowSp w W.heap.size T u O
 ne:u.ownBlock ≠ some g
theorem AddSt.ext {T:TypeId} {W w w' : World} {g:Nat} {O:List Sp} {u:Value} (h:AddSt T W g O u w) (hx:Ext w w'):AddSt T W g O u w' := ⟨h.hg,h.bx.ext hx,h.ex.trans hx,h.row.ext hx,h.ne⟩
def addO (fr tt:Int) (O:List Sp):List Sp:=if fr ≤ tt then O ++ [⟨fr,tt⟩] else O
def AddPost (T:TypeId) (W:World) (g:Nat) (O:List Sp) (u:Value) (w:World) (e:Ending) (w' : World):Prop :=
 e=.returned (.tuple #[])∧Off (fun k=>k=g ∨ u.ownBlock=some k) w w' ∧ ∃ u', AddSt T W g O u' w'
set_option maxRecDepth 100000 in
set_option maxHeartbeats 4000000 in
theorem impl_couldBe_add (fr tt:Int) (g:Nat) (O:List Sp) (W:World) (u:Value) (w:World) (h:AddSt 111 W g O u w) (hl:O.length ≤ 1000) :
  Calls Tryz.prog 174 #[.int .i64 fr,.int .i64 tt,.pointer (some ⟨g,0,none⟩)] w (AddPost 111 W g (addO fr tt O) u w):=by
 obtain ⟨A,c,rfl⟩:=ownsRow_len h.row
 have H:=qh h
 have b0:=h.bx.at0
 have bf:=h.bx.fz 0 (by simp)
 have bg:=h.bx.1
 have hwg:=h.hg
 clear h
 by_cases hle:fr ≤ tt
 ·have T1:decide (fr ≤ tt)=true:=decide_eq_true hle
  have Ho:Hid (addO fr tt O=O ++ [⟨fr,tt⟩]):=qh (if_pos hle)
  have Hsrc:Hid (Row (w.alloc (.cells #[.int .i64 fr,.int .i64 tt] 111)) 0 (w.alloc (.cells #[.int .i64 fr,.int .i64 tt] 111)).heap.size 2 (.slice (some ⟨w.heap.size,0,none⟩) 1 1) 1 (spanCell [⟨fr,tt⟩])):=qh ((Boxed.new w [.int .i64 fr,.int .i64 tt] 111).row rfl (span_cells _ _))
  have HrW:=qh (H.out.row.ext ((Ext.refl w).alloc (.cells #[.int .i64 fr,.int .i64 tt] 111)))
  clear hle
  go_enter Tryz.func174,Tryz.ntmps174
  go_wp2_with (at_builtin;refine wpList_append_row _ rfl _ _ 40 rfl W.heap.size 111 2 16 Tryz.underlying40 (by kernel_rfl) (by omega) _ O.length 1 _ rfl (.inl HrW.out) (.inr (by omega)) 0 _ _ (spanCell [⟨fr,tt⟩]) rfl Hsrc.out (fun i _=>spanCell_one _ i) (by unfold maxLen;omega) (by omega) (by simp;omega) ?_;intro v5 w5 hown5 hput5;have Hrow5:=qh (RowSp.push hown5);have Hp5:=qh hput5;have Hb5:=qh ((H.out.bx.ext ((Ext.refl w).alloc (.cells #[.int .i64 fr,.int .i64 tt] 111))).off hput5.1 (fun hh=>H.out.ne hh.2.2));have q0:=Hb5.out.at0;have qf:=Hb5.out.fz 0 (by simp);have qg:=Hb5.out.1;obtain ⟨A6,c6,rfl⟩:=ownsRow_len hown5;clear hown5 hput5)
  go_end0
  have hput:=Hp5.out
  have hne:(Value.slice A6 (O.length+1) c6).ownBlock ≠ some g:=fun hh=>by
   rcases hput.2 g hh with h1 | h1
   ·exact H.out.ne h1.2.2
   ·rw [World.size_alloc] at h1;omega
  refine ⟨rfl,?_,_,?_,?_,?_,?_,hne⟩
  ·refine Off.setCell (Off.trans (Off.of_ext ((Ext.refl w).alloc _)) (hput.1.mono (fun k hk=>.inr hk.2.2))) (.inl (.inl rfl)) _
  ·exact H.out.hg
  ·exact Boxed.set Hb5.out 0 _ (by simp)
  ·exact Ext.setCell (hput.ext (H.out.ex.trans ((Ext.refl w).alloc _)) (Nat.le_refl _)) H.out.hg _
  ·rw [Ho.out]
   exact ownsRow_setCell_other Hrow5.out (fun hh=>hne hh) _
 ·have T1:decide (fr ≤ tt)=false:=decide_eq_false hle
  have Ho:Hid (addO fr tt O=O):=qh (if_neg hle)
  clear hle
  go_enter Tryz.func174,Tryz.ntmps174
  go_wp2_with fail
  go_end0
  rw [Ho.out]
  exact ⟨rfl,Off.refl _ _,_,H.out⟩
set_option maxRecDepth 100000 in
set_option maxHeartbeats 16000000 in
theorem spec_l17Deed (vr vp vt vl vw vs vse vha v vd vwi vci:Value) (W:Wrl) (l:List Ded) (d:Ded) (w:World) (h:WrlAt w 0 w.heap.size vr vp vt vl vw vs vse vha W) (hd:Deds w 0 w.heap.size v l)
  (kd:Clss w 0 w.heap.size vd d.dt) (kw:Wits w 0 w.heap.size vwi d.wi) (kc:Strs w 0 w.heap.size vci d.ci) (hse:MksOk W.se) (hha:MksOk W.ha) (hpp:PplOk W.pp) (hs1:NSm W.pp.ps) (hs2:∀ i,i < W.pp.tm.length → (trmAt W.pp.tm i).of.size ≤ 1048576)
  (hnm:d.nm.size ≤ 9223372036854775807) (hkg:∀ i,i < d.dt.length → (clsAt d.dt i).kg.size ≤ 9223372036854775807) :
  Calls Tryz.prog 137 #[.agg #[vr,.int .i64 W.ch.fr,.int .i64 W.ch.to,vp,vt,vl,vw,vs,vse,vha],v,.agg #[.string d.nm,vd,vwi,.string d.pl,.string d.se,.string d.ha,vci]] w (RetX (.bool (B (DedIn W l d))) w):=by
 obtain ⟨Ad,cd,rfl,hdn,hdc⟩:=kd.len
 obtain ⟨Aw,cw,rfl,hwn,hwc⟩:=kw.len
 obtain ⟨Ac,cc,rfl,hcn,hcc⟩:=kc.len
 have H:=qh h
 have Hd:=qh hd
 have Kd:=qh kd
 have Kw:=qh kw
 have Kc:=qh kc
 have Hse:=qh hse
 have Hha:=qh hha
 have Hpp:=qh hpp
 have Hs2:=qh hs2
 have Hkg:=qh hkg
 have Hs1:=qh hs1
 clear h hd kd kw kc hse hha hpp hs1 hs2 hkg
 obtain ⟨q1,e1⟩:∃ b,B (NameOk d.nm 12)=b:=⟨_,rfl⟩
 have Hq1:=qh e1
 clear e1
 obtain ⟨q3,e3⟩:∃ b,B (DtgOk d.dt)=b:=⟨_,rfl⟩
 have Hq3:=qh e3
 clear e3
 have Hwe:=qh (wiE_cases W.pp d.wi)
 obtain ⟨x,ex⟩:∃ x,wiE W.pp d.wi=x:=⟨_,rfl⟩
 have Hx:=qh ex
 clear ex
 have T0:=qh (show TwoB w ((w.alloc (.cells #[vr,.int .i64 W.ch.fr,.int .i64 W.ch.to,vp,vt,vl,vw,vs,vse,vha] 56)).alloc (.cells #[.string d.nm,.slice Ad d.dt.length cd,.slice Aw d.wi.length cw,.string d.pl,.string d.se,.string d.ha,.slice Ac d.ci.length cc] 101)) [vr,.int .i64 W.ch.fr,.int .i64 W.ch.to,vp,vt,vl,vw,vs,vse,vha] [.string d.nm,.slice Ad d.dt.length cd,.slice Aw d.wi.length cw,.string d.pl,.string d.se,.string d.ha,.slice Ac d.ci.length cc] from ⟨exts,(Boxed.new w [vr,.int .i64 W.ch.fr,.int .i64 W.ch.to,vp,vt,vl,vw,vs,vse,vha] 56).ext exts,by have t:=Boxed.new (w.alloc (.cells #[vr,.int .i64 W.ch.fr,.int .i64 W.ch.to,vp,vt,vl,vw,vs,vse,vha] 56)) [.string d.nm,.slice Ad d.dt.length cd,.slice Aw d.wi.length cw,.string d.pl,.string d.se,.string d.ha,.slice Ac d.ci.length cc] 101;rw [World.size_alloc] at t;exact t⟩)
 go_enter Tryz.func137,Tryz.ntmps137
 go_wp2_with fail
 refine Calls.mono (spec_l01Name_b Hq1.out _ hnm) ?_
 rintro e w1 ⟨rfl,hE⟩
 have T1:=qh (show TwoB w w1 [vr,.int .i64 W.ch.fr,.int .i64 W.ch.to,vp,vt,vl,vw,vs,vse,vha] [.string d.nm,.slice Ad d.dt.length cd,.slice Aw d.wi.length cw,.string d.pl,.string d.se,.string d.ha,.slice Ac d.ci.length cc] from by rw [← hE];exact T0.out)
 have hx1:=T1.out.1
 clear hE
 have a0:=T1.out.2.2.cell 0 rfl
 have a1:=T1.out.2.2.cell 1 rfl
 have a2:=T1.out.2.2.cell 2 rfl
 have a3:=T1.out.2.2.cell 3 rfl
 have a4:=T1.out.2.2.cell 4 rfl
 have a5:=T1.out.2.2.cell 5 rfl
 have a6:=T1.out.2.2.cell 6 rfl
 have b3:=T1.out.2.1.cell 3 rfl
 have b4:=T1.out.2.1.cell 4 rfl
 have b5:=T1.out.2.1.cell 5 rfl
 have b6:=T1.out.2.1.cell 6 rfl
 have b8:=T1.out.2.1.cell 8 rfl
 have b9:=T1.out.2.1.cell 9 rfl
 have ag:=T1.out.2.2.1
 have bg:=T1.out.2.1.1
 cases q1
 case false =>
  go_wp2_with fail
  go_ret
  exact ⟨ret_bool (B_false (fun h=>B_not.1 Hq1.out h.1)).symm,exts⟩
 go_wp2_with fail
 refine Calls.mono (spec_IsDating _ d.dt _ (Kd.out.up exts) Hkg.out) ?_
 rintro e w2 ⟨rfl,hE⟩
 have T2:=qh (T1.out.ext (show Ext _ w2 from exts))
 have hx2:=T2.out.1
 clear hE
 clear a0 a1 a2 a3 a4 a5 a6 b3 b4 b5 b6 b8 b9 ag bg
 have a0:=T2.out.2.2.cell 0 rfl
 have a1:=T2.out.2.2.cell 1 rfl
 have a2:=T2.out.2.2.cell 2 rfl
 have a3:=T2.out.2.2.cell 3 rfl
 have a4:=T2.out.2.2.cell 4 rfl
 have a5:=T2.out.2.2.cell 5 rfl
 have a6:=T2.out.2.2.cell 6 rfl
 have b3:=T2.out.2.1.cell 3 rfl
 have b4:=T2.out.2.1.cell 4 rfl
 have b5:=T2.out.2.1.cell 5 rfl
 have b6:=T2.out.2.1.cell 6 rfl
 have b8:=T2.out.2.1.cell 8 rfl
 have b9:=T2.out.2.1.cell 9 rfl
 have ag:=T2.out.2.2.1
 have bg:=T2.out.2.1.1
 rw [Hq3.out]
 cases q3
 case false =>
  go_wp2_with fail
  go_ret
  exact ⟨ret_bool (B_false (fun h=>B_not.1 Hq3.out h.2.1)).symm,exts⟩
 go_wp2_with fail
 refine Calls.mono (spec_l13Code vp vt _ W.pp d.wi _ (H.out.up exts).ps (H.out.up exts).tm Hs1.out Hs2.out (Kw.out.up exts)) ?_
 rintro e w3 ⟨rfl,hE⟩
 have T3:=qh (T2.out.ext (show Ext _ w3 from exts))
 have hx3:=T3.out.1
 clear hE
 clear a0 a1 a2 a3 a4 a5 a6 b3 b4 b5 b6 b8 b9 ag bg
 have a0:=T3.out.2.2.cell 0 rfl
 have a1:=T3.out.2.2.cell 1 rfl
 have a2:=T3.out.2.2.cell 2 rfl
 have a3:=T3.out.2.2.cell 3 rfl
 have a4:=T3.out.2.2.cell 4 rfl
 have a5:=T3.out.2.2.cell 5 rfl
 have a6:=T3.out.2.2.cell 6 rfl
 have b3:=T3.out.2.1.cell 3 rfl
 have b4:=T3.out.2.1.cell 4 rfl
 have b5:=T3.out.2.1.cell 5 rfl
 have b6:=T3.out.2.1.cell 6 rfl
 have b8:=T3.out.2.1.cell 8 rfl
 have b9:=T3.out.2.1.cell 9 rfl
 have ag:=T3.out.2.2.1
 have bg:=T3.out.2.1.1
 rw [Hx.out]
 by_cases hx0:x=0
 case neg =>
  have n1:(x == 0)=false:=by simpa using hx0
  have n2:decide (x=0)=false:=decide_eq_false hx0
  have Hxi:=qh (show ¬ (d.wi.length ≤ 12∧WisOk W.pp d.wi) from by rcases Hwe.out with ⟨t,_⟩ | ⟨_,t⟩;exact absurd (Hx.out.symm.trans t) hx0;exact t Hpp.out)
  go_wp2_with fail
  go_ret
  exact ⟨ret_bool (B_false (fun h=>Hxi.out h.2.2.1)).symm,exts⟩
 subst hx0
 have Hwi:=qh (show d.wi.length ≤ 12∧WisOk W.pp d.wi from by rcases Hwe.out with ⟨_,t⟩ | ⟨t,_⟩;exact t;exact absurd Hx.out t)
 by_cases h5:d.ci.length ≤ 8
 case neg =>
  have d5:decide ((8:Int) < (d.ci.length:Int))=true:=decide_eq_true (by omega)
  go_wp2_with fail
  go_ret
  exact ⟨ret_bool (B_false (fun h=>h5 h.2.2.2.1)).symm,exts⟩
 have d5:decide ((8:Int) < (d.ci.length:Int))=false:=decide_eq_false (by omega)
 have T4:=qh T3.out
 have hx4:=T4.out.1
 go_upto_region 3 with fail
 go_cut [71] (fun s wx=>∃ q:Bool,s=.bool q∧(q=false ↔ PshOk W d)∧TwoB w wx [vr,.int .i64 W.ch.fr,.int .i64 W.ch.to,vp,vt,vl,vw,vs,vse,vha] [.string d.nm,.slice Ad d.dt.length cd,.slice Aw d.wi.length cw,.string d.pl,.string d.se,.string d.ha,.slice Ac d.ci.length cc])
 case first =>
  by_cases hpl:d.pl=⟨#[]⟩
  case pos =>
   have sp:=nil_is hpl
   have sp2:=str_is hpl
   have Hp:=qh hpl
   clear hpl
   by_cases hse:d.se=⟨#[]⟩
   case pos =>
    have ss:=nil_is hse
    have ss2:=str_is hse
    have Hs:=qh hse
    clear hse
    by_cases hha:d.ha=⟨#[]⟩
    case pos =>
     have sh:=nil_is hha
     have sh2:=str_is hha
     have Hh:=qh hha
     clear hha
     go_wp2_with fail
     go_meet
     exact ⟨false,rfl,⟨fun _=>⟨.inl Hp.out,.inl Hs.out,.inl Hh.out⟩,fun _=>rfl⟩,T4.out.ext exts⟩
    have sh:=nil_no hha
    have sh2:=str_ne hha
    have Hh:=qh hha
    clear hha
    go_wp2_with fail
    refine Calls.mono (spec_l16Days vha W.ha d.ha _ (H.out.up exts).ha Hha.out) ?_
    rintro e w5 ⟨y5,rfl,hE,ho5⟩
    obtain ⟨Y5,Z5,rfl⟩:=ownsRow_len ho5
    clear ho5
    have T5:=qh (T4.out.ext (show Ext _ w5 from exts))
    have hx5:=T5.out.1
    clear hE
    clear a0 a1 a2 a3 a4 a5 a6 b3 b4 b5 b6 b8 b9 ag bg
    have a0:=T5.out.2.2.cell 0 rfl
    have a1:=T5.out.2.2.cell 1 rfl
    have a2:=T5.out.2.2.cell 2 rfl
    have a3:=T5.out.2.2.cell 3 rfl
    have a4:=T5.out.2.2.cell 4 rfl
    have a5:=T5.out.2.2.cell 5 rfl
    have a6:=T5.out.2.2.cell 6 rfl
    have b3:=T5.out.2.1.cell 3 rfl
    have b4:=T5.out.2.1.cell 4 rfl
    have b5:=T5.out.2.1.cell 5 rfl
    have b6:=T5.out.2.1.cell 6 rfl
    have b8:=T5.out.2.1.cell 8 rfl
    have b9:=T5.out.2.1.cell 9 rfl
    have ag:=T5.out.2.2.1
    have bg:=T5.out.2.1.1
    by_cases hl:0 < (mkL (mdL W.ha d.ha)).length
    case pos =>
     have dl:(((mkL (mdL W.ha d.ha)).length:Int) == 0)=false:=by rw [beq_eq_false_iff_ne];omega
     have dl2:decide (((mkL (mdL W.ha d.ha)).length:Int)=0)=false:=decide_eq_false (by omega)
     have dl3:¬ (((mkL (mdL W.ha d.ha)).length:Int)=0):=by omega
     have Hl:=qh hl
     clear hl
     go_wp2_with fail
     go_meet
     exact ⟨false,rfl,⟨fun _=>⟨.inl Hp.out,.inl Hs.out,.inr Hl.out⟩,fun _=>rfl⟩,T5.out.ext exts⟩
    have dl:(((mkL (mdL W.ha d.ha)).length:Int) == 0)=true:=by rw [beq_iff_eq];omega
    have dl2:decide (((mkL (mdL W.ha d.ha)).length:Int)=0)=true:=decide_eq_true (by omega)
    have dl3:((mkL (mdL W.ha d.ha)).length:Int)=0:=by omega
    have Hl:=qh hl
    clear hl
    go_wp2_with fail
    go_meet
    exact ⟨true,rfl,⟨fun h=>(by cases h),fun h=>(h.2.2.elim (fun e=>absurd e Hh.out) (fun e=>absurd e Hl.out))⟩,T5.out.ext exts⟩
   have ss:=nil_no hse
   have ss2:=str_ne hse
   have Hs:=qh hse
   clear hse
   go_wp2_with fail
   refine Calls.mono (spec_l16Days vse W.se d.se _ (H.out.up exts).se Hse.out) ?_
   rintro e w5 ⟨y5,rfl,hE,ho5⟩
   obtain ⟨Y5,Z5,rfl⟩:=ownsRow_len ho5
   clear ho5
   have T5:=qh (T4.out.ext (show Ext _ w5 from exts))
   have hx5:=T5.out.1
   clear hE
   clear a0 a1 a2 a3 a4 a5 a6 b3 b4 b5 b6 b8 b9 ag bg
   have a0:=T5.out.2.2.cell 0 rfl
   have a1:=T5.out.2.2.cell 1 rfl
   have a2:=T5.out.2.2.cell 2 rfl
   have a3:=T5.out.2.2.cell 3 rfl
   have a4:=T5.out.2.2.cell 4 rfl
   have a5:=T5.out.2.2.cell 5 rfl
   have a6:=T5.out.2.2.cell 6 rfl
   have b3:=T5.out.2.1.cell 3 rfl
   have b4:=T5.out.2.1.cell 4 rfl
   have b5:=T5.out.2.1.cell 5 rfl
   have b6:=T5.out.2.1.cell 6 rfl
   have b8:=T5.out.2.1.cell 8 rfl
   have b9:=T5.out.2.1.cell 9 rfl
   have ag:=T5.out.2.2.1
   have bg:=T5.out.2.1.1
   by_cases hl:0 < (mkL (mdL W.se d.se)).length
   case neg =>
    have dl:(((mkL (mdL W.se d.se)).length:Int) == 0)=true:=by rw [beq_iff_eq];omega
    have dl2:decide (((mkL (mdL W.se d.se)).length:Int)=0)=true:=decide_eq_true (by omega)
    have dl3:((mkL (mdL W.se d.se)).length:Int)=0:=by omega
    have Hl:=qh hl
    clear hl
    go_wp2_with fail
    go_meet
    exact ⟨true,rfl,⟨fun h=>(by cases h),fun h=>(h.2.1.elim (fun e=>absurd e Hs.out) (fun e=>absurd e Hl.out))⟩,T5.out.ext exts⟩
   have el:(((mkL (mdL W.se d.se)).length:Int) == 0)=false:=by rw [beq_eq_false_iff_ne];omega
   have el2:decide (((mkL (mdL W.se d.se)).length:Int)=0)=false:=decide_eq_false (by omega)
   have el3:¬ (((mkL (mdL W.se d.se)).length:Int)=0):=by omega
   have Hls:=qh hl
   clear hl
   by_cases hha:d.ha=⟨#[]⟩
   case pos =>
    have sh:=nil_is hha
    have sh2:=str_is hha
    have Hh:=qh hha
    clear hha
    go_wp2_with fail
    go_meet
    exact ⟨false,rfl,⟨fun _=>⟨.inl Hp.out,.inr Hls.out,.inl Hh.out⟩,fun _=>rfl⟩,T5.out.ext exts⟩
   have sh:=nil_no hha
   have sh2:=str_ne hha
   have Hh:=qh hha
   clear hha
   go_wp2_with fail
   refine Calls.mono (spec_l16Days vha W.ha d.ha _ (H.out.up exts).ha Hha.out) ?_
   rintro e w6 ⟨y6,rfl,hE,ho6⟩
   obtain ⟨Y6,Z6,rfl⟩:=ownsRow_len ho6
   clear ho6
   have T6:=qh (T5.out.ext (show Ext _ w6 from exts))
   have hx6:=T6.out.1
   clear hE
   clear a0 a1 a2 a3 a4 a5 a6 b3 b4 b5 b6 b8 b9 ag bg
   have a0:=T6.out.2.2.cell 0 rfl
   have a1:=T6.out.2.2.cell 1 rfl
   have a2:=T6.out.2.2.cell 2 rfl
   have a3:=T6.out.2.2.cell 3 rfl
   have a4:=T6.out.2.2.cell 4 rfl
   have a5:=T6.out.2.2.cell 5 rfl
   have a6:=T6.out.2.2.cell 6 rfl
   have b3:=T6.out.2.1.cell 3 rfl
   have b4:=T6.out.2.1.cell 4 rfl
   have b5:=T6.out.2.1.cell 5 rfl
   have b6:=T6.out.2.1.cell 6 rfl
   have b8:=T6.out.2.1.cell 8 rfl
   have b9:=T6.out.2.1.cell 9 rfl
   have ag:=T6.out.2.2.1
   have bg:=T6.out.2.1.1
   by_cases hl:0 < (mkL (mdL W.ha d.ha)).length
   case pos =>
    have dl:(((mkL (mdL W.ha d.ha)).length:Int) == 0)=false:=by rw [beq_eq_false_iff_ne];omega
    have dl2:decide (((mkL (mdL W.ha d.ha)).length:Int)=0)=false:=decide_eq_false (by omega)
    have dl3:¬ (((mkL (mdL W.ha d.ha)).length:Int)=0):=by omega
    have Hl:=qh hl
    clear hl
    go_wp2_with fail
    go_meet
    exact ⟨false,rfl,⟨fun _=>⟨.inl Hp.out,.inr Hls.out,.inr Hl.out⟩,fun _=>rfl⟩,T6.out.ext exts⟩
   have dl:(((mkL (mdL W.ha d.ha)).length:Int) == 0)=true:=by rw [beq_iff_eq];omega
   have dl2:decide (((mkL (mdL W.ha d.ha)).length:Int)=0)=true:=decide_eq_true (by omega)
   have dl3:((mkL (mdL W.ha d.ha)).length:Int)=0:=by omega
   have Hl:=qh hl
   clear hl
   go_wp2_with fail
   go_meet
   exact ⟨true,rfl,⟨fun h=>(by cases h),fun h=>(h.2.2.elim (fun e=>absurd e Hh.out) (fun e=>absurd e Hl.out))⟩,T6.out.ext exts⟩
  have sp:=nil_no hpl
  have sp2:=str_ne hpl
  have Hp:=qh hpl
  clear hpl
  obtain ⟨z,ez⟩:∃ z,fstIx (fun i=>strAt W.ld.pl i=d.pl) W.ld.pl.length=z:=⟨_,rfl⟩
  have Hz:=qh ez
  clear ez
  go_wp2_with fail
  refine Calls.mono (spec_l01Text vl W.ld.pl d.pl _ (H.out.up exts).pl) ?_
  rintro e w5 ⟨rfl,hE⟩
  have T5:=qh (T4.out.ext (show Ext _ w5 from exts))
  have hx5:=T5.out.1
  clear hE
  clear a0 a1 a2 a3 a4 a5 a6 b3 b4 b5 b6 b8 b9 ag bg
  have a0:=T5.out.2.2.cell 0 rfl
  have a1:=T5.out.2.2.cell 1 rfl
  have a2:=T5.out.2.2.cell 2 rfl
  have a3:=T5.out.2.2.cell 3 rfl
  have a4:=T5.out.2.2.cell 4 rfl
  have a5:=T5.out.2.2.cell 5 rfl
  have a6:=T5.out.2.2.cell 6 rfl
  have b3:=T5.out.2.1.cell 3 rfl
  have b4:=T5.out.2.1.cell 4 rfl
  have b5:=T5.out.2.1.cell 5 rfl
  have b6:=T5.out.2.1.cell 6 rfl
  have b8:=T5.out.2.1.cell 8 rfl
  have b9:=T5.out.2.1.cell 9 rfl
  have ag:=T5.out.2.2.1
  have bg:=T5.out.2.1.1
  rw [Hz.out]
  by_cases hz:z < 0
  case pos =>
   have dz:decide (z < 0)=true:=decide_eq_true hz
   go_wp2_with fail
   go_meet
   exact ⟨true,rfl,⟨fun h=>(by cases h),fun h=>(h.1.elim (fun e=>absurd e Hp.out) (fun e=>by rw [Hz.out] at e;omega))⟩,T5.out.ext exts⟩
  have dz:decide (z < 0)=false:=decide_eq_false hz
  by_cases hse:d.se=⟨#[]⟩
  case pos =>
   have ss:=nil_is hse
   have ss2:=str_is hse
   have Hs:=qh hse
   clear hse
   by_cases hha:d.ha=⟨#[]⟩
   case pos =>
    have sh:=nil_is hha
    have sh2:=str_is hha
    have Hh:=qh hha
    clear hha
    go_wp2_with fail
    go_meet
    exact ⟨false,rfl,⟨fun _=>⟨.inr (by rw [Hz.out];omega),.inl Hs.out,.inl Hh.out⟩,fun _=>rfl⟩,T5.out.ext exts⟩
   have sh:=nil_no hha
   have sh2:=str_ne hha
   have Hh:=qh hha
   clear hha
   go_wp2_with fail
   refine Calls.mono (spec_l16Days vha W.ha d.ha _ (H.out.up exts).ha Hha.out) ?_
   rintro e w6 ⟨y6,rfl,hE,ho6⟩
   obtain ⟨Y6,Z6,rfl⟩:=ownsRow_len ho6
   clear ho6
   have T6:=qh (T5.out.ext (show Ext _ w6 from exts))
   have hx6:=T6.out.1
   clear hE
   clear a0 a1 a2 a3 a4 a5 a6 b3 b4 b5 b6 b8 b9 ag bg
   have a0:=T6.out.2.2.cell 0 rfl
   have a1:=T6.out.2.2.cell 1 rfl
   have a2:=T6.out.2.2.cell 2 rfl
   have a3:=T6.out.2.2.cell 3 rfl
   have a4:=T6.out.2.2.cell 4 rfl
   have a5:=T6.out.2.2.cell 5 rfl
   have a6:=T6.out.2.2.cell 6 rfl
   have b3:=T6.out.2.1.cell 3 rfl
   have b4:=T6.out.2.1.cell 4 rfl
   have b5:=T6.out.2.1.cell 5 rfl
   have b6:=T6.out.2.1.cell 6 rfl
   have b8:=T6.out.2.1.cell 8 rfl
   have b9:=T6.out.2.1.cell 9 rfl
   have ag:=T6.out.2.2.1
   have bg:=T6.out.2.1.1
   by_cases hl:0 < (mkL (mdL W.ha d.ha)).length
   case pos =>
    have dl:(((mkL (mdL W.ha d.ha)).length:Int) == 0)=false:=by rw [beq_eq_false_iff_ne];omega
    have dl2:decide (((mkL (mdL W.ha d.ha)).length:Int)=0)=false:=decide_eq_false (by omega)
    have dl3:¬ (((mkL (mdL W.ha d.ha)).length:Int)=0):=by omega
    have Hl:=qh hl
    clear hl
    go_wp2_with fail
    go_meet
    exact ⟨false,rfl,⟨fun _=>⟨.inr (by rw [Hz.out];omega),.inl Hs.out,.inr Hl.out⟩,fun _=>rfl⟩,T6.out.ext exts⟩
   have dl:(((mkL (mdL W.ha d.ha)).length:Int) == 0)=true:=by rw [beq_iff_eq];omega
   have dl2:decide (((mkL (mdL W.ha d.ha)).length:Int)=0)=true:=decide_eq_true (by omega)
   have dl3:((mkL (mdL W.ha d.ha)).length:Int)=0:=by omega
   have Hl:=qh hl
   clear hl
   go_wp2_with fail
   go_meet
   exact ⟨true,rfl,⟨fun h=>(by cases h),fun h=>(h.2.2.elim (fun e=>absurd e Hh.out) (fun e=>absurd e Hl.out))⟩,T6.out.ext exts⟩
  have ss:=nil_no hse
  have ss2:=str_ne hse
  have Hs:=qh hse
  clear hse
  go_wp2_with fail
  refine Calls.mono (spec_l16Days vse W.se d.se _ (H.out.up exts).se Hse.out) ?_
  rintro e w6 ⟨y6,rfl,hE,ho6⟩
  obtain ⟨Y6,Z6,rfl⟩:=ownsRow_len ho6
  clear ho6
  have T6:=qh (T5.out.ext (show Ext _ w6 from exts))
  have hx6:=T6.out.1
  clear hE
  clear a0 a1 a2 a3 a4 a5 a6 b3 b4 b5 b6 b8 b9 ag bg
  have a0:=T6.out.2.2.cell 0 rfl
  have a1:=T6.out.2.2.cell 1 rfl
  have a2:=T6.out.2.2.cell 2 rfl
  have a3:=T6.out.2.2.cell 3 rfl
  have a4:=T6.out.2.2.cell 4 rfl
  have a5:=T6.out.2.2.cell 5 rfl
  have a6:=T6.out.2.2.cell 6 rfl
  have b3:=T6.out.2.1.cell 3 rfl
  have b4:=T6.out.2.1.cell 4 rfl
  have b5:=T6.out.2.1.cell 5 rfl
  have b6:=T6.out.2.1.cell 6 rfl
  have b8:=T6.out.2.1.cell 8 rfl
  have b9:=T6.out.2.1.cell 9 rfl
  have ag:=T6.out.2.2.1
  have bg:=T6.out.2.1.1
  by_cases hl:0 < (mkL (mdL W.se d.se)).length
  case neg =>
   have dl:(((mkL (mdL W.se d.se)).length:Int) == 0)=true:=by rw [beq_iff_eq];omega
   have dl2:decide (((mkL (mdL W.se d.se)).length:Int)=0)=true:=decide_eq_true (by omega)
   have dl3:((mkL (mdL W.se d.se)).length:Int)=0:=by omega
   have Hl:=qh hl
   clear hl
   go_wp2_with fail
   go_meet
   exact ⟨true,rfl,⟨fun h=>(by cases h),fun h=>(h.2.1.elim (fun e=>absurd e Hs.out) (fun e=>absurd e Hl.out))⟩,T6.out.ext exts⟩
  have el:(((mkL (mdL W.se d.se)).length:Int) == 0)=false:=by rw [beq_eq_false_iff_ne];omega
  have el2:decide (((mkL (mdL W.se d.se)).length:Int)=0)=false:=decide_eq_false (by omega)
  have el3:¬ (((mkL (mdL W.se d.se)).length:Int)=0):=by omega
  have Hls:=qh hl
  clear hl
  by_cases hha:d.ha=⟨#[]⟩
  case pos =>
   have sh:=nil_is hha
   have sh2:=str_is hha
   have Hh:=qh hha
   clear hha
   go_wp2_with fail
   go_meet
   exact ⟨false,rfl,⟨fun _=>⟨.inr (by rw [Hz.out];omega),.inr Hls.out,.inl Hh.out⟩,fun _=>rfl⟩,T6.out.ext exts⟩
  have sh:=nil_no hha
  have sh2:=str_ne hha
  have Hh:=qh hha
  clear hha
  go_wp2_with fail
  refine Calls.mono (spec_l16Days vha W.ha d.ha _ (H.out.up exts).ha Hha.out) ?_
  rintro e w7 ⟨y7,rfl,hE,ho7⟩
  obtain ⟨Y7,Z7,rfl⟩:=ownsRow_len ho7
  clear ho7
  have T7:=qh (T6.out.ext (show Ext _ w7 from exts))
  have hx7:=T7.out.1
  clear hE
  clear a0 a1 a2 a3 a4 a5 a6 b3 b4 b5 b6 b8 b9 ag bg
  have a0:=T7.out.2.2.cell 0 rfl
  have a1:=T7.out.2.2.cell 1 rfl
  have a2:=T7.out.2.2.cell 2 rfl
  have a3:=T7.out.2.2.cell 3 rfl
  have a4:=T7.out.2.2.cell 4 rfl
  have a5:=T7.out.2.2.cell 5 rfl
  have a6:=T7.out.2.2.cell 6 rfl
  have b3:=T7.out.2.1.cell 3 rfl
  have b4:=T7.out.2.1.cell 4 rfl
  have b5:=T7.out.2.1.cell 5 rfl
  have b6:=T7.out.2.1.cell 6 rfl
  have b8:=T7.out.2.1.cell 8 rfl
  have b9:=T7.out.2.1.cell 9 rfl
  have ag:=T7.out.2.2.1
  have bg:=T7.out.2.1.1
  by_cases hl:0 < (mkL (mdL W.ha d.ha)).length
  case pos =>
   have dl:(((mkL (mdL W.ha d.ha)).length:Int) == 0)=false:=by rw [beq_eq_false_iff_ne];omega
   have dl2:decide (((mkL (mdL W.ha d.ha)).length:Int)=0)=false:=decide_eq_false (by omega)
   have dl3:¬ (((mkL (mdL W.ha d.ha)).length:Int)=0):=by omega
   have Hl:=qh hl
   clear hl
   go_wp2_with fail
   go_meet
   exact ⟨false,rfl,⟨fun _=>⟨.inr (by rw [Hz.out];omega),.inr Hls.out,.inr Hl.out⟩,fun _=>rfl⟩,T7.out.ext exts⟩
  have dl:(((mkL (mdL W.ha d.ha)).length:Int) == 0)=true:=by rw [beq_iff_eq];omega
  have dl2:decide (((mkL (mdL W.ha d.ha)).length:Int)=0)=true:=decide_eq_true (by omega)
  have dl3:((mkL (mdL W.ha d.ha)).length:Int)=0:=by omega
  have Hl:=qh hl
  clear hl
  go_wp2_with fail
  go_meet
  exact ⟨true,rfl,⟨fun h=>(by cases h),fun h=>(h.2.2.elim (fun e=>absurd e Hh.out) (fun e=>absurd e Hl.out))⟩,T7.out.ext exts⟩
 case rest =>
  obtain ⟨q8,rfl,hq8,hT⟩:=hcut
  have Hq8:=qh hq8
  have T5:=qh hT
  have hx5:=T5.out.1
  clear hq8 hT
  clear a0 a1 a2 a3 a4 a5 a6 b3 b4 b5 b6 b8 b9 ag bg
  have a0:=T5.out.2.2.cell 0 rfl
  have a1:=T5.out.2.2.cell 1 rfl
  have a2:=T5.out.2.2.cell 2 rfl
  have a3:=T5.out.2.2.cell 3 rfl
  have a4:=T5.out.2.2.cell 4 rfl
  have a5:=T5.out.2.2.cell 5 rfl
  have a6:=T5.out.2.2.cell 6 rfl
  have b3:=T5.out.2.1.cell 3 rfl
  have b4:=T5.out.2.1.cell 4 rfl
  have b5:=T5.out.2.1.cell 5 rfl
  have b6:=T5.out.2.1.cell 6 rfl
  have b8:=T5.out.2.1.cell 8 rfl
  have b9:=T5.out.2.1.cell 9 rfl
  have ag:=T5.out.2.2.1
  have bg:=T5.out.2.1.1
  cases q8
  case true =>
   go_wp2_with fail
   go_ret
   exact ⟨ret_bool (B_false (fun h=>Bool.noConfusion (Hq8.out.2 h.psh))).symm,exts⟩
  have Hpsh:=qh (Hq8.out.1 rfl)
  go_wp2_with fail
  go_loopg [7] d.ci.length (fun q n wr=>∃ j:Nat,j+q=d.ci.length∧n=.int .i64 j∧TwoB w wr [vr,.int .i64 W.ch.fr,.int .i64 W.ch.to,vp,vt,vl,vw,vs,vse,vha] [.string d.nm,.slice Ad d.dt.length cd,.slice Aw d.wi.length cw,.string d.pl,.string d.se,.string d.ha,.slice Ac d.ci.length cc]∧∀ k,k < j → CiteOk l d k)
  case atStart=>exact ⟨0,by omega,rfl,T5.out.ext exts,fun i hi=>absurd hi (by omega)⟩
  case round =>
   obtain ⟨j,hj,rfl,hT,hok⟩:=hrel
   have Hok:=qh hok
   have T6:=qh hT
   have hx6:=T6.out.1
   clear hok hT
   clear a0 a1 a2 a3 a4 a5 a6 b3 b4 b5 b6 b8 b9 ag bg
   have a0:=T6.out.2.2.cell 0 rfl
   have a1:=T6.out.2.2.cell 1 rfl
   have a2:=T6.out.2.2.cell 2 rfl
   have a3:=T6.out.2.2.cell 3 rfl
   have a4:=T6.out.2.2.cell 4 rfl
   have a5:=T6.out.2.2.cell 5 rfl
   have a6:=T6.out.2.2.cell 6 rfl
   have b3:=T6.out.2.1.cell 3 rfl
   have b4:=T6.out.2.1.cell 4 rfl
   have b5:=T6.out.2.1.cell 5 rfl
   have b6:=T6.out.2.1.cell 6 rfl
   have b8:=T6.out.2.1.cell 8 rfl
   have b9:=T6.out.2.1.cell 9 rfl
   have ag:=T6.out.2.2.1
   have bg:=T6.out.2.1.1
   have hj0:(0:Int) ≤ (j:Int):=by omega
   by_cases hlt:j < d.ci.length
   case neg =>
    obtain rfl:j=d.ci.length:=by omega
    have hji:¬ (d.ci.length:Int) < (d.ci.length:Int):=by omega
    go_wp2_with fail
    go_ret
    exact ⟨ret_bool (B_true (dedIn_of (B_iff.1 Hq1.out) (B_iff.1 Hq3.out) Hwi.out h5 Hpsh.out Hok.out)).symm,exts⟩
   have hji:(j:Int) < (d.ci.length:Int):=by omega
   have hjl:(j:Int) ≤ (d.ci.length:Int):=by omega
   have hjc:(j:Int) ≤ (cc:Int):=by omega
   have hjc2:j ≤ cc:=by omega
   have Kr:=qh (Kc.out.up hx6)
   obtain ⟨bc,oc,eA,_,hbc,g1⟩:=Kr.out.at_ hlt
   subst eA
   have Htk:=qh (Strs.take Kr.out (Nat.le_of_lt hlt))
   obtain ⟨nm,enm⟩:∃ s,strAt d.ci j=s:=⟨_,rfl⟩
   obtain ⟨r,er⟩:∃ r,fstIx (fun k=>strAt (d.ci.take j) k=nm) (d.ci.take j).length=r:=⟨_,rfl⟩
   have Hdup:=qh (dup_iff (l:=d.ci) (j:=j) (Nat.le_of_lt hlt))
   rw [enm,er] at Hdup
   rw [enm] at g1
   have Hnm:=qh enm
   have Hr:=qh er
   clear enm er
   have Hct:=qh (fun W0 (hX:Ext wr W0)=>show Calls Tryz.prog 103 #[.slice (some ⟨bc,oc,none⟩) j cc,.string nm] W0 (RetX (.int .i64 r) W0) from by rw [← Hr.out];exact spec_l01Text _ (d.ci.take j) nm W0 (Htk.out.up hX))
   clear Kr
   obtain ⟨y,ey⟩:∃ y,ddIx l nm=y:=⟨_,rfl⟩
   have Hf:=qh (fun W0 (hX:Ext wr W0)=>show Calls Tryz.prog 80 #[v,.string nm] W0 (RetX (.int .i64 y) W0) from by rw [← ey];exact spec_l17Find v l nm W0 (Hd.out.up (hx6.trans hX)))
   have Hy:=qh ey
   clear ey
   by_cases e1:nm=d.nm
   case pos =>
    have s1:=str_is e1
    have E1:=qh e1
    clear e1
    go_wp2_with fail
    (refine wp_region_onto prog_mixed (by kernel_rfl) ?_;(repeat (go_big_quiet_step ((first | (go_at_call 80;exact onto_callX (Hf.out _ (onto_ext _ _))) | (go_at_call 103;exact onto_callX (Hct.out _ (onto_ext _ _)))))));refine onto_end ?_;intro w7 hx7)
    go_wp2_with fail
    go_ret
    exact ⟨ret_bool (B_false (fun h=>(h.cites j hlt).1 (Hnm.out.trans E1.out))).symm,exts⟩
   have s1:=str_ne e1
   have E1:=qh e1
   clear e1
   by_cases hy:y < 0
   case pos =>
    have dy:decide (y < 0)=true:=decide_eq_true hy
    go_wp2_with fail
    (refine wp_region_onto prog_mixed (by kernel_rfl) ?_;(repeat (go_big_quiet_step ((first | (go_at_call 80;exact onto_callX (Hf.out _ (onto_ext _ _))) | (go_at_call 103;exact onto_callX (Hct.out _ (onto_ext _ _)))))));refine onto_end ?_;intro w7 hx7)
    go_wp2_with fail
    go_ret
    exact ⟨ret_bool (B_false (fun h=>by have t:=(h.cites j hlt).2.1;rw [Hnm.out,Hy.out] at t;omega)).symm,exts⟩
   have dy:decide (y < 0)=false:=decide_eq_false hy
   by_cases hr:0 ≤ r
   case pos =>
    have dr:decide (0 ≤ r)=true:=decide_eq_true hr
    go_wp2_with fail
    (refine wp_region_onto prog_mixed (by kernel_rfl) ?_;(repeat (go_big_quiet_step ((first | (go_at_call 80;exact onto_callX (Hf.out _ (onto_ext _ _))) | (go_at_call 103;exact onto_callX (Hct.out _ (onto_ext _ _)))))));refine onto_end ?_;intro w7 hx7)
    go_wp2_with fail
    go_ret
    exact ⟨ret_bool (B_false (fun h=>(Hdup.out.1 hr) (by have t:=(h.cites j hlt).2.2;rw [Hnm.out] at t;exact t))).symm,exts⟩
   have dr:decide (0 ≤ r)=false:=decide_eq_false hr
   go_wp2_with fail
   (refine wp_region_onto prog_mixed (by kernel_rfl) ?_;(repeat (go_big_quiet_step ((first | (go_at_call 80;exact onto_callX (Hf.out _ (onto_ext _ _))) | (go_at_call 103;exact onto_callX (Hct.out _ (onto_ext _ _)))))));refine onto_end ?_;intro w7 hx7)
   go_wp2_with fail
   go_roundg (d.ci.length - (j+1))
   case measure=>omega
   case rel =>
    refine ⟨j+1,by omega,by go_num,T6.out.ext exts,fun k hk=>?_⟩
    by_cases e:k=j
    ·subst e
     refine ⟨by rw [Hnm.out];exact E1.out,by rw [Hnm.out,Hy.out];omega,?_⟩
     rw [Hnm.out]
     exact Classical.byContradiction (fun hn=>by have:=Hdup.out.2 hn;omega)
    ·exact Hok.out k (by omega)
theorem Deds.take {w:World} {lo hi:Nat} {b off:Nat} {c j:Nat} {l:List Ded} (h:Deds w lo hi (.slice (some ⟨b,off,none⟩) l.length c) l) (hj:j ≤ l.length):Deds w lo hi (.slice (some ⟨b,off,none⟩) j c) (l.take j):=by
 obtain ⟨f,⟨hm,A', c', e,hc,hr⟩,h2⟩:=h
 injection e with e1 e2 e3
 subst e3
 have hlen:(l.take j).length=j:=by rw [List.length_take];omega
 refine ⟨f,?_,fun i hi=>?_⟩
 ·rw [hlen]
  refine ⟨by omega,some ⟨b,off,none⟩,c,rfl,by omega,fun h0=>?_⟩
  obtain ⟨b', off', hA,k1,k2,k3⟩:=hr (by omega)
  rw [← e1] at hA
  injection hA with hA
  injection hA with hA hO
  subst hA hO
  exact ⟨b,off,rfl,k1,k2,fun i hi=>k3 i (by omega)⟩
 ·rw [hlen] at hi
  have e:dedAt (l.take j) i=dedAt l i:=by
   unfold dedAt
   rw [List.getD_eq_getElem?_getD,List.getD_eq_getElem?_getD,List.getElem?_take,if_pos hi]
  rw [e]
  exact h2 i (by omega)
theorem ddIx_take {l:List Ded} {j:Nat} (hj:j ≤ l.length) (name:ByteArray):0 ≤ ddIx (l.take j) name ↔ ¬ ∀ k,k < j → (dedAt l k).nm ≠ name:=by
 have hlen:(l.take j).length=j:=by rw [List.length_take];omega
 unfold ddIx
 rw [hlen]
 have hc:fstIx (fun i=>(dedAt (l.take j) i).nm=name) j=fstIx (fun i=>(dedAt l i).nm=name) j:=fstIx_congr j (fun i hi=>by
  have e:dedAt (l.take j) i=dedAt l i:=by
   unfold dedAt
   rw [List.getD_eq_getElem?_getD,List.getD_eq_getElem?_getD,List.getElem?_take,if_pos hi]
  rw [e])
 rw [hc]
 rcases fstIx_cases (fun i=>(dedAt l i).nm=name) j with ⟨h1,h2⟩ | ⟨k,h1,h2,h3,h4⟩
 ·rw [h1]
  exact ⟨fun h=>by omega,fun h=>absurd (fun k hk=>h2 k hk) h⟩
 ·rw [h2]
  exact ⟨fun _ h=>h k h1 h3,fun _=>by omega⟩
theorem Boxed.ten {w:World} {g:Nat} {c0 c1 c2 c3 c4 c5 c6 c7 c8 c9:Value} (h:Boxed w g [c0,c1,c2,c3,c4,c5,c6,c7,c8,c9]) :
  w.cell? ⟨g,0,none⟩=some c0∧w.cell? ⟨g,1,none⟩=some c1∧w.cell? ⟨g,2,none⟩=some c2∧w.cell? ⟨g,3,none⟩=some c3∧w.cell? ⟨g,4,none⟩=some c4∧w.cell? ⟨g,5,none⟩=some c5∧w.cell? ⟨g,6,none⟩=some c6∧w.cell? ⟨g,7,none⟩=some c7∧w.cell? ⟨g,8,none⟩=some c8∧w.cell? ⟨g,9,none⟩=some c9∧g < w.heap.size :=
 ⟨h.cell 0 rfl,h.cell 1 rfl,h.cell 2 rfl,h.cell 3 rfl,h.cell 4 rfl,h.cell 5 rfl,h.cell 6 rfl,h.cell 7 rfl,h.cell 8 rfl,h.cell 9 rfl,h.1⟩
set_option maxRecDepth 100000 in
set_option maxHeartbeats 8000000 in
theorem impl_AreDeeds (vr vp vt vl vw vs vse vha v:Value) (W:Wrl) (l:List Ded) (w:World) (h:WrlAt w 0 w.heap.size vr vp vt vl vw vs vse vha W) (hd:Deds w 0 w.heap.size v l) :
  Calls Tryz.prog 82 #[.agg #[vr,.int .i64 W.ch.fr,.int .i64 W.ch.to,vp,vt,vl,vw,vs,vse,vha],v] w (RetX (.bool (B (DedsOk W l))) w):=by
 obtain ⟨A,c,rfl,hn,hc⟩:=hd.len
 have H:=qh h
 have Hd:=qh hd
 clear h hd
 obtain ⟨q1,e1⟩:∃ b,B (WrlOk W)=b:=⟨_,rfl⟩
 have Hq1:=qh e1
 clear e1
 have Hb:=qh (Boxed.new w [vr,.int .i64 W.ch.fr,.int .i64 W.ch.to,vp,vt,vl,vw,vs,vse,vha] 56)
 go_enter Tryz.func82,Tryz.ntmps82
 go_wp2_with fail
 refine Calls.mono (impl_IsWorld vr vp vt vl vw vs vse vha W _ (H.out.up exts)) ?_
 rintro e w1 ⟨rfl,hx1⟩
 rw [Hq1.out]
 have HB1:=qh (Hb.out.ext hx1)
 have hxw:Ext w w1:=exts
 clear hx1 Hb
 cases q1
 case false =>
  go_wp2_with fail
  go_ret
  exact ⟨ret_bool (B_false (fun h=>B_not.1 Hq1.out h.1)).symm,exts⟩
 have Hse:=qh (B_iff.1 Hq1.out).2.2.2.1
 have Hha:=qh (B_iff.1 Hq1.out).2.2.2.2
 by_cases h8:l.length ≤ 8
 case neg =>
  have d8:decide ((8:Int) < (l.length:Int))=true:=decide_eq_true (by omega)
  go_wp2_with fail
  go_ret
  exact ⟨ret_bool (B_false (fun h=>h8 h.2.1)).symm,exts⟩
 have d8:decide ((8:Int) < (l.length:Int))=false:=decide_eq_false (by omega)
 go_wp2_with fail
 go_loopg [5,16] l.length (fun q u i wr=>∃ j:Nat,j+q=l.length∧i=.int .i64 j∧Ext w wr∧Boxed wr w.heap.size [vr,.int .i64 W.ch.fr,.int .i64 W.ch.to,vp,vt,vl,vw,vs,vse,vha]∧∀ i,i < j → DedOk W l i)
 case atStart=>exact ⟨0,by omega,rfl,hxw,HB1.out,fun i hi=>absurd hi (by omega)⟩
 case round =>
  obtain ⟨j,hj,rfl,hx,hbb,hok⟩:=hrel
  have Hok:=qh hok
  have Hbb:=qh hbb
  obtain ⟨b0,b1,b2,b3,b4,b5,b6,b7,b8,b9,bg⟩:=hbb.ten
  clear hok hbb
  have hj0:(0:Int) ≤ (j:Int):=by omega
  by_cases hlt:j < l.length
  ·have hji:(j:Int) < (l.length:Int):=by omega
   obtain ⟨q2,e2⟩:∃ b,B (DedOk W l j)=b:=⟨_,rfl⟩
   have Hq2:=qh e2
   clear e2
   go_wp2_with fail
   refine Calls.mono (impl_isDeed vr vp vt vl vw vs vse vha _ W l j _ (H.out.up hx) (Hd.out.up hx) hlt Hse.out Hha.out) ?_
   rintro e w2 ⟨rfl,hx2⟩
   rw [Hq2.out]
   cases q2
   case false =>
    go_wp2_with fail
    go_ret
    exact ⟨ret_bool (B_false (fun h=>B_not.1 Hq2.out (h.2.2 j hlt))).symm,exts⟩
   go_wp2_with fail
   go_roundg (l.length - (j+1))
   case measure=>omega
   case rel=>exact ⟨j+1,by omega,by go_num,hx.trans hx2,Hbb.out.ext hx2,ded_step Hok.out (B_iff.1 Hq2.out)⟩
  ·obtain rfl:j=l.length:=by omega
   have hji:¬ (l.length:Int) < (l.length:Int):=by omega
   go_wp2_with fail
   go_ret
   exact ⟨ret_bool (B_true ⟨B_iff.1 Hq1.out,h8,Hok.out⟩).symm,exts⟩
def DsNm (l:List Ded):Prop:=∀ i,i < l.length → (dedAt l i).nm.size ≤ 9223372036854775807∧∀ k,k < (dedAt l i).dt.length → (clsAt (dedAt l i).dt k).kg.size ≤ 9223372036854775807
set_option maxRecDepth 100000 in
set_option maxHeartbeats 8000000 in
theorem spec_AreDeeds (vr vp vt vl vw vs vse vha v:Value) (W:Wrl) (l:List Ded) (w:World) (h:WrlAt w 0 w.heap.size vr vp vt vl vw vs vse vha W) (hd:Deds w 0 w.heap.size v l) (hsm:WSm W) (hnm:DsNm l) :
  Calls Tryz.prog 79 #[.agg #[vr,.int .i64 W.ch.fr,.int .i64 W.ch.to,vp,vt,vl,vw,vs,vse,vha],v] w (RetX (.bool (B (DedsOk W l))) w):=by
 obtain ⟨A,c,rfl,hn,hc⟩:=hd.len
 have H:=qh h
 have Hd:=qh hd
 have Hsm:=qh hsm
 have Hnm:=qh hnm
 clear h hd hsm hnm
 obtain ⟨q1,e1⟩:∃ b,B (WrlOk W)=b:=⟨_,rfl⟩
 have Hq1:=qh e1
 clear e1
 have Hb:=qh (Boxed.new w [vr,.int .i64 W.ch.fr,.int .i64 W.ch.to,vp,vt,vl,vw,vs,vse,vha] 56)
 go_enter Tryz.func79,Tryz.ntmps79
 go_wp2_with fail
 refine Calls.mono (spec_IsWorld vr vp vt vl vw vs vse vha W _ (H.out.up exts) Hsm.out) ?_
 rintro e w1 ⟨rfl,hx1⟩
 rw [Hq1.out]
 have HB1:=qh (Hb.out.ext hx1)
 have hxw:Ext w w1:=exts
 clear hx1 Hb
 cases q1
 case false =>
  go_wp2_with fail
  go_ret
  exact ⟨ret_bool (B_false (fun h=>B_not.1 Hq1.out h.1)).symm,exts⟩
 have Hpp:=qh (B_iff.1 Hq1.out).2.1
 have Hse:=qh (B_iff.1 Hq1.out).2.2.2.1
 have Hha:=qh (B_iff.1 Hq1.out).2.2.2.2
 by_cases h8:l.length ≤ 8
 case neg =>
  have d8:decide ((8:Int) < (l.length:Int))=true:=decide_eq_true (by omega)
  go_wp2_with fail
  go_ret
  exact ⟨ret_bool (B_false (fun h=>h8 h.2.1)).symm,exts⟩
 have d8:decide ((8:Int) < (l.length:Int))=false:=decide_eq_false (by omega)
 go_wp2_with fail
 go_loopg [5] l.length (fun q i wr=>∃ j:Nat,j+q=l.length∧i=.int .i64 j∧Ext w wr∧Boxed wr w.heap.size [vr,.int .i64 W.ch.fr,.int .i64 W.ch.to,vp,vt,vl,vw,vs,vse,vha]∧∀ i,i < j → DedOk W l i)
 case atStart=>exact ⟨0,by omega,rfl,hxw,HB1.out,fun i hi=>absurd hi (by omega)⟩
 case round =>
  obtain ⟨j,hj,rfl,hx,hbb,hok⟩:=hrel
  have Hok:=qh hok
  have Hbb:=qh hbb
  obtain ⟨b0,b1,b2,b3,b4,b5,b6,b7,b8,b9,bg⟩:=hbb.ten
  clear hok hbb
  have hj0:(0:Int) ≤ (j:Int):=by omega
  by_cases hlt:j < l.length
  ·have hji:(j:Int) < (l.length:Int):=by omega
   have hjl:(j:Int) ≤ (l.length:Int):=by omega
   have hjc:(j:Int) ≤ (c:Int):=by omega
   have hjc2:j ≤ c:=by omega
   have Hr:=qh (Hd.out.up hx)
   obtain ⟨b,off,vd,vwi,vci,eA,_,hb,h1,h2,h3,h4,h5,h6,h7,kd,kw,kc⟩:=Hr.out.at_ hlt
   subst eA
   obtain ⟨Ad,cd,rfl,hdn,hdc⟩:=kd.len
   obtain ⟨Aw,cw,rfl,hwn,hwc⟩:=kw.len
   obtain ⟨Ac,cc,rfl,hcn,hcc⟩:=kc.len
   have Kd:=qh kd
   have Kw:=qh kw
   have Kc:=qh kc
   have Htk:=qh (Deds.take Hr.out (Nat.le_of_lt hlt))
   have Hdup:=qh (ddIx_take (l:=l) (j:=j) (Nat.le_of_lt hlt) (dedAt l j).nm)
   clear kd kw kc
   have hbr:b < wr.heap.size:=hb
   obtain ⟨q2,e2⟩:∃ b,B (DedIn W l (dedAt l j))=b:=⟨_,rfl⟩
   obtain ⟨y,ey⟩:∃ y,ddIx (l.take j) (dedAt l j).nm=y:=⟨_,rfl⟩
   have Hf:=qh (fun W0 (hX:Ext wr W0)=>show Calls Tryz.prog 80 #[.slice (some ⟨b,off,none⟩) j c,.string (dedAt l j).nm] W0 (RetX (.int .i64 y) W0) from by rw [← ey];exact spec_l17Find _ (l.take j) (dedAt l j).nm W0 (Htk.out.up hX))
   have Hg:=qh (fun W0 (hX:Ext wr W0)=>show Calls Tryz.prog 137 #[.agg #[vr,.int .i64 W.ch.fr,.int .i64 W.ch.to,vp,vt,vl,vw,vs,vse,vha],.slice (some ⟨b,off,none⟩) l.length c,.agg #[.string (dedAt l j).nm,.slice Ad (dedAt l j).dt.length cd,.slice Aw (dedAt l j).wi.length cw,.string (dedAt l j).pl,.string (dedAt l j).se,.string (dedAt l j).ha,.slice Ac (dedAt l j).ci.length cc]] W0 (RetX (.bool q2) W0) from by
    rw [← e2]
    exact spec_l17Deed vr vp vt vl vw vs vse vha _ _ _ _ W l (dedAt l j) W0 (H.out.up (hx.trans hX)) (Hd.out.up (hx.trans hX)) (Kd.out.up hX) (Kw.out.up hX) (Kc.out.up hX) Hse.out Hha.out Hpp.out Hsm.out.2.1 Hsm.out.2.2.1 (Hnm.out j hlt).1 (Hnm.out j hlt).2)
   rw [ey] at Hdup
   have Hq2:=qh e2
   clear e2 ey
   cases q2
   case false =>
    go_wp2_with fail
    (refine wp_region_onto prog_mixed (by kernel_rfl) ?_;(repeat (go_big_quiet_step ((go_at_call 137;exact onto_callX (Hg.out _ (onto_ext _ _))))));refine onto_end ?_;intro w2 hx2)
    go_wp2_with fail
    go_ret
    exact ⟨ret_bool (B_false (fun h=>B_not.1 Hq2.out (h.2.2 j hlt).1)).symm,exts⟩
   by_cases hy:0 ≤ y
   case pos =>
    have dy:decide (0 ≤ y)=true:=decide_eq_true hy
    go_wp2_with fail
    (refine wp_region_onto prog_mixed (by kernel_rfl) ?_;(repeat (go_big_quiet_step ((first | (go_at_call 137;exact onto_callX (Hg.out _ (onto_ext _ _))) | (go_at_call 80;exact onto_callX (Hf.out _ (onto_ext _ _)))))));refine onto_end ?_;intro w2 hx2)
    go_wp2_with fail
    go_ret
    exact ⟨ret_bool (B_false (fun h=>(Hdup.out.1 hy) (h.2.2 j hlt).2)).symm,exts⟩
   have dy:decide (0 ≤ y)=false:=decide_eq_false hy
   go_wp2_with fail
   (refine wp_region_onto prog_mixed (by kernel_rfl) ?_;(repeat (go_big_quiet_step ((first | (go_at_call 137;exact onto_callX (Hg.out _ (onto_ext _ _))) | (go_at_call 80;exact onto_callX (Hf.out _ (onto_ext _ _)))))));refine onto_end ?_;intro w2 hx2)
   go_wp2_with fail
   go_roundg (l.length - (j+1))
   case measure=>omega
   case rel=>exact ⟨j+1,by omega,by go_num,hx.trans hx2,Hbb.out.ext hx2,ded_step Hok.out ⟨B_iff.1 Hq2.out,Classical.byContradiction fun hn=>by have:=Hdup.out.2 hn;omega⟩⟩
  ·obtain rfl:j=l.length:=by omega
   have hji:¬ (l.length:Int) < (l.length:Int):=by omega
   go_wp2_with fail
   go_ret
   exact ⟨ret_bool (B_true ⟨B_iff.1 Hq1.out,h8,Hok.out⟩).symm,exts⟩
end Go.Proofs.YtechbeegbhlppaaGreatDoor
