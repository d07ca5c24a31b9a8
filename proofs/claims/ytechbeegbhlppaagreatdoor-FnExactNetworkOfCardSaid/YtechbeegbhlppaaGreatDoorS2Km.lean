/- Contracts: stays; IsItinerary, the reference's. (Printed by genKm.py.) -/
import Derived.Test.YtechbeegbhlppaaGreatDoorS2Kk
import Derived.Deep.RegionHeld3
import Derived.Deep.Cut
namespace Go.Proofs.YtechbeegbhlppaaGreatDoor
set_option linter.unusedVariables false
set_option linter.unusedSimpArgs false
open Go.RowKit
attribute [local go_sem] cell_onto
set_option maxHeartbeats 4000000 in
theorem spec_l15Stay (A:Option Addr) (n c:Nat) (u:Value) (s:Wy) (w:World) (hn:n ≤ 9223372036854775807):Calls Tryz.prog 228 #[.agg #[.slice A n c,u],.agg #[.int .i64 s.a,.int .i64 s.b,.int .i64 s.d]] w (RetX (.bool (B (StyOk n s))) w):=by
 obtain ⟨q1,eq1⟩:∃ b,B (0 ≤ s.a∧s.a ≤ (n:Int) - 1)=b:=⟨_,rfl⟩
 have Hq1:=qh eq1
 clear eq1
 obtain ⟨q2,eq2⟩:∃ b,B (SpOk ⟨s.b,s.d⟩)=b:=⟨_,rfl⟩
 have Hq2:=qh eq2
 clear eq2
 have Hb:=qh (Boxed.new (w.alloc (.cells #[.slice A n c,u] 52)) [.int .i64 s.a,.int .i64 s.b,.int .i64 s.d] 162)
 go_enter Tryz.func228,Tryz.ntmps228
 go_wp2_with fail
 refine Calls.mono (spec_l14Place_b Hq1.out _ _ _ _ hn) ?_
 rintro e w1 ⟨rfl,hx1⟩
 have hb1:=Hb.out.ext hx1
 rw [World.size_alloc] at hb1
 have bx:=hb1;have bx0:=bx.at0;have bx1:=bx.at1;have bx2:=bx.at2;have bxg:=bx.1;have Hbx:=qh bx;clear bx
 have hxw1:Ext w w1:=exts
 cases q1 with
 | false =>
  go_wp2_with fail
  go_ret
  exact ⟨ret_bool (B_false (fun h=>absurd (h.1) (B_not.1 Hq1.out))).symm,exts⟩
 | true =>
  go_wp2_with fail
  refine Calls.mono (spec_l13Span_b Hq2.out _) ?_
  rintro e w2 ⟨rfl,hx2⟩
  cases q2 with
  | false =>
   go_wp2_with fail
   go_ret
   exact ⟨ret_bool (B_false (fun h=>absurd (h.2) (B_not.1 Hq2.out))).symm,exts⟩
  | true =>
   go_wp2_with fail
   go_ret
   exact ⟨ret_bool (B_true ⟨B_iff.1 Hq1.out,B_iff.1 Hq2.out⟩).symm,exts⟩
theorem frm_le {n:Nat} {l:List Wy} (hl:∀ i,i < l.length → WyOk n (wyAt l i)) (h40:l.length ≤ 40) (hn:n ≤ 12) {a b:Nat} (ha:a < n) (hb:b < n):frmV n l a b ≤ 57600:=by
 have hW:∀ (c:Int) (o:Vc),0 ≤ c → VBd n c o → ∀ m,m ≤ l.length → VBd n (c+120 * (m:Int)) (bfW l o m):=by
  intro c o hc ho m
  induction m with
  | zero=>intro _ i hi;have:=ho i hi;show -1 ≤ o i∧o i ≤ _;omega
  | succ m ih =>
   intro hm
   obtain ⟨⟨a0,a1⟩,⟨b0,b1⟩,_,d0,d1⟩:=hl m (by omega)
   have h1:=(ih (by omega)).rlx (a:=(wyAt l m).a.toNat) (b:=(wyAt l m).b.toNat) (by omega) d0 d1 (by omega)
   have h2:=h1.rlx (a:=(wyAt l m).b.toNat) (b:=(wyAt l m).a.toNat) (by omega) d0 d1 (by omega)
   intro i hi
   have:=h2 i hi
   show -1 ≤ bfS (bfW l o m) (wyAt l m) i∧bfS (bfW l o m) (wyAt l m) i ≤ _
   unfold bfS
   omega
 have hR:∀ r:Nat,VBd n (4800 * (r:Int)) (bfR l (bf0 a) r):=by
  intro r
  induction r with
  | zero=>intro i hi;show -1 ≤ bf0 a i∧bf0 a i ≤ _;unfold bf0;split <;> omega
  | succ r ih =>
   have h:=hW _ _ (by omega) ih l.length (Nat.le_refl _)
   intro i hi
   have:=h i hi
   show -1 ≤ bfW l (bfR l (bf0 a) r) l.length i∧bfW l (bfR l (bf0 a) r) l.length i ≤ _
   omega
 have:=(hR n b hb).2
 show bfR l (bf0 a) n b ≤ 57600
 omega
set_option maxRecDepth 100000 in
set_option maxHeartbeats 16000000 in
theorem spec_IsItinerary (v u vs:Value) (L:Lnd) (l:List Wy) (w:World) (hp:Strs w 0 w.heap.size v L.pl) (ht:Wys w 0 w.heap.size u L.wy) (hs:Wys w 0 w.heap.size vs l) (hsm:∀ i,i < L.pl.length → (strAt L.pl i).size ≤ 1048576):Calls Tryz.prog 185 #[.agg #[v,u],vs] w (RetX (.bool (B (ItiOk L l))) w):=by
 obtain ⟨Ap,cp,rfl,hnp,hcp⟩:=hp.len
 obtain ⟨As,cs', rfl,hns,hcs⟩:=hs.len
 have Hp:=qh hp
 have Ht:=qh ht
 have Hs:=qh hs
 clear hp ht hs
 have Hb:=qh (Boxed.new w [.slice Ap L.pl.length cp,u] 52)
 obtain ⟨q1,e1⟩:∃ b,B (LndOk L)=b:=⟨_,rfl⟩
 have Hq1:=qh e1
 clear e1
 have HL:=qh (fun (W:World) (hX:Ext w W)=>show Calls Tryz.prog 227 #[.agg #[.slice Ap L.pl.length cp,u]] W (RetX (.bool q1) W) from by rw [← Hq1.out];exact spec_IsLand _ u L W (Hp.out.up hX) (Ht.out.up hX) hsm)
 clear hsm
 go_enter Tryz.func185,Tryz.ntmps185
 go_wp2_with fail
 refine Calls.mono (HL.out _ exts) ?_
 rintro e w1 ⟨rfl,hx1⟩
 have bx:=Hb.out.ext hx1;have bx0:=bx.at0;have bx1:=bx.at1;have bxg:=bx.1;have Hbx:=qh bx;clear bx
 cases q1 with
 | false =>
  go_wp2_with fail
  go_ret
  exact ⟨ret_bool (B_false (fun h=>B_not.1 Hq1.out h.1)).symm,exts⟩
 | true =>
  have hok:=B_iff.1 Hq1.out
  have Hok:=qh hok
  have hw40:=hok.2.1
  have hn12:L.pl.length ≤ 12:=hok.1.2
  clear hok
  by_cases hl:l.length ≤ 40
  case neg =>
   have d1:decide ((40:Int) < (l.length:Int))=true:=decide_eq_true (by omega)
   go_wp2_with fail
   go_ret
   exact ⟨ret_bool (B_false (fun h=>by have:=h.2.1;omega)).symm,exts⟩
  have d1:decide ((40:Int) < (l.length:Int))=false:=decide_eq_false (by omega)
  have hxa1:Ext (w.alloc (.cells #[.slice Ap L.pl.length cp,u] 52)) w1:=hx1
  clear bx0 bx1 bxg hx1
  have bx0:=Hbx.out.at0
  have bx1:=Hbx.out.at1
  have bxg:=Hbx.out.1
  go_wp2_with fail
  clear bx0 bx1 bxg
  go_loopg [5,6] l.length (fun q i u6 wr=>∃ j:Nat,j+q=l.length∧i=.int .i64 j∧Ext (w.alloc (.cells #[.slice Ap L.pl.length cp,u] 52)) wr∧∀ i,i < j → StStep L.pl.length (trvM L.pl.length L.wy) l i)
  case atStart=>exact ⟨0,by omega,rfl,hxa1,fun i hi=>absurd hi (by omega)⟩
  case round =>
   obtain ⟨j,hj,rfl,hxr,hok⟩:=hrel
   have Hst:=qh hok
   clear hok
   have hx:Ext w wr:=((Ext.refl w).alloc _).trans hxr
   have bxr:=Hb.out.ext hxr
   have bx0:=bxr.at0
   have bx1:=bxr.at1
   have bxg:=bxr.1
   have Hbr:=qh bxr
   clear bxr
   have hj0:(0:Int) ≤ (j:Int):=by omega
   by_cases hlt:j < l.length
   ·have hji:(j:Int) < (l.length:Int):=by omega
    obtain ⟨bs,ofs,eA,_,hbs,h1,h2,h3⟩:=(Hs.out.ext hx (Nat.le_refl _)).at_ hlt
    subst eA
    have hbr:bs < wr.heap.size:=Nat.lt_of_lt_of_le hbs hx.size
    obtain ⟨s,hs⟩:∃ s,wyAt l j=s:=⟨_,rfl⟩
    rw [hs] at h1 h2 h3
    have HS:=qh hs
    clear hs
    obtain ⟨q2,e1⟩:∃ b,B (StyOk L.pl.length s)=b:=⟨_,rfl⟩
    have Hq2:=qh (fun W=>show Calls Tryz.prog 228 #[.agg #[.slice Ap L.pl.length cp,u],.agg #[.int .i64 s.a,.int .i64 s.b,.int .i64 s.d]] W (RetX (.bool q2) W) from by subst e1;exact spec_l15Stay _ _ _ _ s W hnp)
    have H2:=qh e1
    clear e1
    go_upto_region 6 with fail
    (refine wp_region_onto prog_mixed (by kernel_rfl) ?_;(repeat (go_big_quiet_step ((go_at_call 228;exact onto_callX (Hq2.out _)))));refine onto_end ?_;intro w2 hx2)
    have hxq:Ext wr w2:=exts
    have hxw2:Ext w w2:=hx.trans hxq
    clear h1 h2 h3 bx0 bx1 bxg
    have bxr:=Hbr.out.ext hxq
    have bx0:=bxr.at0
    have bx1:=bxr.at1
    have bxg:=bxr.1
    have Hb2:=qh bxr
    clear bxr
    cases q2 with
    | false =>
     go_wp2_with fail
     go_ret
     exact ⟨ret_bool (B_false (fun h=>B_not.1 H2.out (by have:=(h.2.2 j hlt).1;rwa [HS.out] at this))).symm,exts⟩
    | true =>
     by_cases h0:0 < j
     case neg =>
      have d0:decide ((0:Int) < (j:Int))=false:=decide_eq_false (by omega)
      go_wp2_with fail
      go_roundg (l.length - (j+1))
      case measure=>omega
      case rel=>exact ⟨j+1,by omega,by go_num,(hxr.trans hxq).trans exts,fun i hi=>by
       obtain rfl:i=j:=by omega
       exact ⟨by rw [HS.out];exact B_iff.1 H2.out,fun hh=>absurd hh h0⟩⟩
     have d0:decide ((0:Int) < (j:Int))=true:=decide_eq_true (by omega)
     obtain ⟨bs', ofs', e,_,_,k1,k2,k3⟩:=Hs.out.at_ (i:=j - 1) (by omega)
     injection e with e
     injection e with e1 e2
     subst e1 e2
     obtain ⟨bs', ofs', e,_,_,m1,m2,m3⟩:=Hs.out.at_ (i:=j) hlt
     injection e with e
     injection e with e1 e2
     subst e1 e2
     rw [HS.out] at m1 m2 m3
     have hq0:(0:Int) ≤ (j:Int) - 1:=by omega
     have hq1:(j:Int) - 1 < (l.length:Int):=by omega
     have hq2:((j:Int) - 1).toNat=j - 1:=by omega
     have W0:IntKind.i64.wrap ((j:Int) - 1)=(j:Int) - 1:=IntWalk.i64_in _ (by omega)
     have hpr:=(Hst.out (j - 1) (by omega)).1
     obtain ⟨t,ht⟩:∃ t,wyAt l (j - 1)=t:=⟨_,rfl⟩
     rw [ht] at k1 k2 k3 hpr
     have HT:=qh ht
     clear ht
     have Hso:=qh (B_iff.1 H2.out)
     have Hto:=qh hpr
     obtain ⟨⟨ta0,ta1⟩,⟨tb0,tb1⟩,⟨td0,td1⟩,_⟩:=hpr
     obtain ⟨⟨sa0,sa1⟩,⟨sb0,sb1⟩,_,_⟩:=Hso.out
     have ta2:t.a < (L.pl.length:Int):=by omega
     have sa2:s.a < (L.pl.length:Int):=by omega
     have yt:t.a.toNat < L.pl.length:=by omega
     have ys:s.a.toNat < L.pl.length:=by omega
     have r1:=(hxw2.cell (p:=⟨bs,ofs+(j - 1) * 3,none⟩) hbs).trans k1
     have r2:=(hxw2.cell (p:=⟨bs,ofs+j * 3,none⟩) hbs).trans m1
     obtain ⟨z,hz⟩:∃ z,frmV L.pl.length L.wy t.a.toNat s.a.toNat=z:=⟨_,rfl⟩
     have Hiff:=qh (show StStep L.pl.length (trvM L.pl.length L.wy) l j ↔ (0 ≤ z∧t.d+max 1 z ≤ s.b) from ⟨fun h=>by
      have h9:=h.2 h0
      rw [HS.out,HT.out,nxt_iff Hok.out.2.2.2 hw40 hn12 Hto.out Hso.out,hz] at h9
      exact h9,fun h=>⟨by rw [HS.out];exact Hso.out,fun _=>by
      rw [HS.out,HT.out,nxt_iff Hok.out.2.2.2 hw40 hn12 Hto.out Hso.out,hz]
      exact h⟩⟩)
     have Hz:=qh hz
     clear hz
     have Hzb:=qh (show z ≤ 57600 from by rw [← Hz.out];exact frm_le Hok.out.2.2.2 hw40 hn12 yt ys)
     go_upto_region 9 with fail
     have hjl1:(1:Int) ≤ (j:Int):=by omega
     have hbsw2:bs < w2.heap.size:=Nat.lt_of_lt_of_le hbs hxw2.size
     go_region_law (go_simp;go_at_call 157;refine Calls.mono (spec_l14From _ u L t.a _ (Hp.out.up (hxw2.trans exts)) (Ht.out.up (hxw2.trans exts)) Hok.out ta0 ta2) ?_;rintro e w3 ⟨g,rfl,hx3,hg3,hB3⟩;have hgw3:=hB3.1;have cz:w3.cell? ⟨g,s.a.toNat,none⟩=some (.int .i64 z):=((hB3.2 s.a.toNat ys).1).trans (congrArg (fun y=>some (Value.int .i64 y)) Hz.out);have r23:w3.cell? ⟨bs,ofs+j * 3,none⟩=some (.int .i64 s.a):=(Ext.cell (show Ext w2 w3 from exts) (p:=⟨bs,ofs+j * 3,none⟩) hbsw2).trans r2;have hbs4:bs < w3.heap.size:=Nat.lt_of_lt_of_le hbsw2 (Ext.size (show Ext w2 w3 from exts)))
     all_goals
      have hx23:Ext w2 w3:=exts
      have hxw3:Ext w w3:=hxw2.trans hx23
      have hbs3:bs < w3.heap.size:=Nat.lt_of_lt_of_le hbs hxw3.size
      have p1:=(hxw3.cell (p:=⟨bs,ofs+(j - 1) * 3+2,none⟩) hbs).trans k3
      have p2:=(hxw3.cell (p:=⟨bs,ofs+j * 3+1,none⟩) hbs).trans m2
      have hzb:=Hzb.out
      clear k1 k2 k3 m1 m2 m3 r1 r2 cz r23
      by_cases z0:0 ≤ z
      case neg =>
       have D1:decide (z < 0)=true:=decide_eq_true (by omega)
       go_wp2_with fail
       (refine wp_region_onto prog_mixed (by kernel_rfl) ?_;(repeat (go_big_quiet_step ((fail))));refine onto_end ?_;intro w4 hx4)
       go_wp2_with fail
       go_ret
       exact ⟨ret_bool (B_false (fun h=>by have:=Hiff.out.1 (h.2.2 j hlt);omega)).symm,exts⟩
      have D1:decide (z < 0)=false:=decide_eq_false (by omega)
      have W2:IntKind.i64.wrap (t.d+max 1 z)=t.d+max 1 z:=IntWalk.i64_in _ (by omega)
      by_cases z1:t.d+max 1 z ≤ s.b
      case neg =>
       have D2:decide (s.b < t.d+max 1 z)=true:=decide_eq_true (by omega)
       go_wp2_with fail
       (refine wp_region_onto prog_mixed (by kernel_rfl) ?_;(repeat (go_big_quiet_step ((fail))));refine onto_end ?_;intro w4 hx4)
       go_wp2_with fail
       go_ret
       exact ⟨ret_bool (B_false (fun h=>by have:=Hiff.out.1 (h.2.2 j hlt);omega)).symm,exts⟩
      have D2:decide (s.b < t.d+max 1 z)=false:=decide_eq_false (by omega)
      have Hnew:=qh (Hiff.out.2 ⟨z0,z1⟩)
      go_wp2_with fail
      (refine wp_region_onto prog_mixed (by kernel_rfl) ?_;(repeat (go_big_quiet_step ((fail))));refine onto_end ?_;intro w4 hx4)
      have hx34:Ext w3 w4:=exts
      go_wp2_with fail
      go_roundg (l.length - (j+1))
      case measure=>omega
      case rel=>exact ⟨j+1,by omega,by go_num,(((hxr.trans hxq).trans hx23).trans hx34).trans exts,st_step Hst.out Hnew.out⟩
   ·obtain rfl:j=l.length:=by omega
    have hji:¬ (l.length:Int) < (l.length:Int):=by omega
    go_wp2_with fail
    go_ret
    exact ⟨ret_bool (B_true ⟨Hok.out,hl,Hst.out⟩).symm,exts⟩
end Go.Proofs.YtechbeegbhlppaaGreatDoor
