/- Texts merged (a claim holds at most sixty files): Td, Ji, Qm, Qn. -/
import Derived.Test.YtechbeegbhlppaaGreatDoorS2G
import Derived.Lib.ItoaNum
import Derived.Laws.IdiomStrings
import Derived.Laws.BytesString
import Derived.Deep.RegionHeld3
import Derived.Deep.RegionLaw
import Derived.IntWalk
import Derived.Test.YtechbeegbhlppaaGreatDoorS2Jg
import Derived.Test.YtechbeegbhlppaaGreatDoorS2Ka
import Derived.Test.YtechbeegbhlppaaGreatDoorS2A
namespace Go.Proofs.YtechbeegbhlppaaGreatDoor
set_option linter.unusedVariables false
set_option linter.unusedSimpArgs false
open Go.RowKit
attribute [local go_sem] cell_onto
def dgB (d:Nat):ByteArray:=⟨#[UInt8.ofNat (48+d)]⟩
def decB (n:Nat):ByteArray:=⟨(Lib.decDigits n).toArray⟩
theorem decB_one {n:Nat} (h:n < 10):decB n=dgB n:=by unfold decB dgB;rw [Lib.decDigits_one h]
theorem decB_more {n:Nat} (h:¬ n < 10):decB n=decB (n / 10) ++ dgB (n % 10):=by
 unfold decB dgB
 rw [Lib.decDigits,dif_neg h]
 apply ByteArray.ext
 simp
theorem dgB_size (d:Nat):(dgB d).size=1:=rfl
theorem digit_nat {d:Nat} (hd:d < 10):(UInt8.ofNat (48+d)).toNat=48+d:=by
 rw [UInt8.toNat_ofNat']
 omega
theorem run_digit {W:World} {b d:Nat} (hd:d < 10) (hx:W.cell? ⟨b,0,none⟩=some (.int .u8 (48+(d:Int)))) :
  (convert 189 9 (.slice (some ⟨b,0,none⟩) 1 1)).run Tryz.prog W=.ok (.string (dgB d)) W :=
 run_convert_bytes_back (P:=Tryz.prog) W 189 9 5 ⟨b,0,none⟩ 1 [UInt8.ofNat (48+d)] Tryz.underlying189 Tryz.underlying5 Tryz.underlying9 (fun j hj=>by
  have hj' : j < 1:=hj
  obtain rfl:j=0:=by omega
  show W.cell? ⟨b,0+0,none⟩=some (.int .u8 (((UInt8.ofNat (48+d)).toNat:Nat):Int))
  rw [digit_nat hd]
  exact hx)
def mB:ByteArray:=⟨#[109]⟩
def mkT (k:Int):ByteArray:=mB ++ decB k.toNat
theorem decB_split {n:Nat} (h:¬ n < 10) (t:ByteArray):decB (n / 10) ++ (dgB (n % 10) ++ t)=decB n ++ t:=by rw [decB_more h,ByteArray.append_assoc]
set_option maxRecDepth 100000 in
set_option maxHeartbeats 2000000 in
theorem laws_markText (k:Int) (w:World) (h0:0 < k) (h1:k ≤ 2251799813685248):Calls Tryz.prog 67 #[.int .i64 k] w (RetX (.string (mkT k)) w):=by
 obtain ⟨n,rfl⟩:=Int.eq_ofNat_of_zero_le (Int.le_of_lt h0)
 have hn0:0 < n:=by omega
 have hn1:n ≤ 2251799813685248:=by omega
 have Hm:Hid (mkT (n:Int)=mB ++ decB n):=qh (by unfold mkT;rw [Int.toNat_natCast])
 have d0:decide ((n:Int) ≤ 0)=false:=decide_eq_false (by omega)
 rw [Hm.out]
 go_enter Tryz.func67,Tryz.ntmps67
 go_wp2_with fail
 go_loopg [0,3] n (fun q u0 u3 wr=>∃ (m:Nat) (t:ByteArray),m ≤ q∧m ≤ n∧u0=.int .i64 (m:Int)∧u3=.string t∧Ext w wr∧Hid (t.size ≤ 2251799813685250 - m)∧Hid ((0 < m → decB m ++ t=decB n)∧(m=0 → t=decB n)))
 case atStart=>exact ⟨n,⟨#[]⟩,Nat.le_refl _,Nat.le_refl _,rfl,rfl,exts,qh (by show 0 ≤ _;omega),qh ⟨fun _=>by apply ByteArray.ext;simp,fun h=>by omega⟩⟩
 case round =>
  obtain ⟨m,t,hmq,hmn,rfl,rfl,hx,Ht,Hd⟩:=hrel
  by_cases hm:0 < m
  ·have hmi:(0:Int) < (m:Int):=by omega
   have Hwq:=qh (show IntKind.i64.wrap ((m:Int) / 10)=((m / 10:Nat):Int) from by rw [IntWalk.i64_in _ (by omega)];omega)
   have hu:IntKind.u8.wrap (IntKind.i64.wrap (48+(m:Int).tmod 10))=48+((m % 10:Nat):Int):=by
    rw [Int.tmod_eq_emod_of_nonneg (by omega),IntWalk.i64_in _ (by omega)]
    show (48+(m:Int) % 10) % 256=_
    omega
   have Hcv:=qh (show ∀ (W:World) (b:Nat),W.cell? ⟨b,0,none⟩=some (.int .u8 (48+(m:Int) % 10)) → (convert 189 9 (.slice (some ⟨b,0,none⟩) 1 1)).run Tryz.prog W=.ok (.string (dgB (m % 10))) W from
    fun W b hx=>run_digit (by omega) (by rw [hx];congr 2))
   have hcv1:=Hcv.out _ _ (Boxed.new wr [.int .u8 (48+(m:Int) % 10)] 5).at0
   have hts:=Ht.out
   have hsz:¬ 9223372036854775807 < (dgB (m % 10)).size+t.size:=by rw [dgB_size];omega
   have hsz2:¬ 9223372036854775806 < t.size:=by omega
   clear hu hts
   go_wp2_with fail
   try rw [Hwq.out]
   go_roundg (m / 10)
   case measure=>omega
   case rel =>
    refine ⟨m / 10,_,Nat.le_refl _,by omega,rfl,rfl,exts,qh (by have:=Ht.out;rw [ByteArray.size_append,dgB_size];omega),qh ⟨fun h=>?_,fun h=>?_⟩⟩
    ·rw [decB_split (by omega)]
     exact Hd.out.1 hm
    ·have h10:m < 10:=by omega
     have:=Hd.out.1 hm
     rw [decB_one h10] at this
     rw [show m % 10=m by omega]
     exact this
  ·obtain rfl:m=0:=by omega
   have he:=Hd.out.2 rfl
   have hts:=Ht.out
   have hs1:¬ 9223372036854775807 < mB.size+t.size:=by have e:mB.size=1:=rfl;omega
   have hs2:¬ 9223372036854775806 < t.size:=by omega
   have He:=qh he
   clear he hts
   go_wp2_with fail
   go_ret
   exact ⟨by rw [← He.out];rfl,exts⟩
section
variable {w w' : World} {lo hi:Nat} {v:Value}
end
theorem Own.at2 {w:World} {b sz n off c:Nat} {f:Nat → Value} (h:Own w b sz (.slice (some ⟨b,off,none⟩) n c) n f) (hn:0 < n):b < w.heap.size∧∀ i,i < n * sz → w.cell? ⟨b,off+i,none⟩=some (f i)∧w.frozen? ⟨b,off+i,none⟩=false:=by
 obtain ⟨off', e,hb,hc⟩:=h.at_ hn
 injection e with e
 injection e with _ e
 subst e
 exact ⟨hb,hc⟩
end Go.Proofs.YtechbeegbhlppaaGreatDoor
namespace Go.Proofs.YtechbeegbhlppaaGreatDoor
set_option linter.unusedVariables false
set_option linter.unusedSimpArgs false
open Go.RowKit
def Cel (w:World) (lo hi sz:Nat) (v:Value) (n:Nat):Prop :=
 n ≤ maxLen∧∃ A c,v=.slice A n c∧n ≤ c∧(0 < n → ∃ b off,A=some ⟨b,off,none⟩∧lo ≤ b∧b < hi∧b < w.heap.size∧∀ i,i < n * sz → (∃ u,w.cell? ⟨b,off+i,none⟩=some u)∧w.frozen? ⟨b,off+i,none⟩=false)
structure Mrk (lo hi:Nat) (w w' : World):Prop where
 off:Off (fun x=>lo ≤ x∧x < hi) w w'
 has:∀ b o,b < w.heap.size → (∃ u,w.cell? ⟨b,o,none⟩=some u) → ∃ u,w'.cell? ⟨b,o,none⟩=some u
 fz:∀ b o,b < w.heap.size → w.frozen? ⟨b,o,none⟩=false → w'.frozen? ⟨b,o,none⟩=false
theorem Mrk.of_ext {lo hi:Nat} {w w' : World} (h:Ext w w'):Mrk lo hi w w' :=
 ⟨Off.of_ext h,fun b o hb hu=>by obtain ⟨u,hu⟩:=hu;exact ⟨u,(h.cell (p:=⟨b,o,none⟩) hb).trans hu⟩,fun b o hb hf=>(h.frozen (p:=⟨b,o,none⟩) hb).trans hf⟩
theorem Mrk.refl (lo hi:Nat) (w:World):Mrk lo hi w w:=Mrk.of_ext (Ext.refl w)
theorem Mrk.trans {lo hi:Nat} {a b c:World} (h:Mrk lo hi a b) (k:Mrk lo hi b c):Mrk lo hi a c :=
 ⟨h.off.trans k.off,fun g o hg hu=>k.has g o (Nat.lt_of_lt_of_le hg h.off.size) (h.has g o hg hu),fun g o hg hu=>k.fz g o (Nat.lt_of_lt_of_le hg h.off.size) (h.fz g o hg hu)⟩
theorem Mrk.mono {lo hi lo' hi' : Nat} {a b:World} (h:Mrk lo hi a b) (h1:lo' ≤ lo) (h2:hi ≤ hi'):Mrk lo' hi' a b :=
 ⟨h.off.mono (fun k hk=>by omega),h.has,h.fz⟩
theorem has_set {w:World} {p:Addr} {u:Value} {b o:Nat} (h:∃ x,w.cell? ⟨b,o,none⟩=some x):∃ x,(w.setCell p u).cell? ⟨b,o,none⟩=some x:=by
 obtain ⟨x,hx⟩:=h
 by_cases e:p=⟨b,o,none⟩
 ·subst e;exact ⟨u,World.cell?_setCell_same w _ u hx⟩
 ·exact ⟨x,(World.cell?_setCell_other w p ⟨b,o,none⟩ u e).trans hx⟩
theorem Mrk.setCell {lo hi:Nat} {a w:World} (h:Mrk lo hi a w) {p:Addr} (hp:lo ≤ p.block∧p.block < hi) (u:Value):Mrk lo hi a (w.setCell p u) :=
 ⟨h.off.setCell (.inl hp) u,fun b o hb hu=>has_set (h.has b o hb hu),fun b o hb hu=>(World.frozen?_setCell w p ⟨b,o,none⟩ u).trans (h.fz b o hb hu)⟩
section
variable {w w' : World} {lo hi lo' hi' sz n:Nat} {v:Value}
theorem Cel.mrk (h:Cel w lo hi sz v n) {k m:Nat} (hx:Mrk k m w w'):Cel w' lo hi sz v n:=by
 obtain ⟨hm,A,c,hv,hc,hr⟩:=h
 refine ⟨hm,A,c,hv,hc,fun hn=>?_⟩
 obtain ⟨b,off,hA,h1,h2,h3,h4⟩:=hr hn
 exact ⟨b,off,hA,h1,h2,Nat.lt_of_lt_of_le h3 hx.off.size,fun i hi=>⟨hx.has b _ h3 (h4 i hi).1,hx.fz b _ h3 (h4 i hi).2⟩⟩
theorem Cel.mono (h:Cel w lo hi sz v n) (h1:lo' ≤ lo) (h2:hi ≤ hi'):Cel w lo' hi' sz v n:=by
 obtain ⟨hm,A,c,hv,hc,hr⟩:=h
 refine ⟨hm,A,c,hv,hc,fun hn=>?_⟩
 obtain ⟨b,off,hA,k1,k2,k3⟩:=hr hn
 exact ⟨b,off,hA,Nat.le_trans h1 k1,Nat.lt_of_lt_of_le k2 h2,k3⟩
theorem Cel.of_own {b:Nat} {f:Nat → Value} (h:Own w b sz v n f) (h1:0 < n → lo ≤ b∧b < hi):Cel w lo hi sz v n:=by
 obtain ⟨hm,A,c,hv,hc,hr⟩:=h
 refine ⟨hm,A,c,hv,hc,fun hn=>?_⟩
 obtain ⟨hb,off,hA,h3⟩:=hr hn
 exact ⟨b,off,hA,(h1 hn).1,(h1 hn).2,hb,fun i hi=>⟨⟨_,(h3 i hi).1⟩,(h3 i hi).2⟩⟩
theorem Cel.len (h:Cel w lo hi sz v n):∃ A c,v=.slice A n c∧n ≤ 9223372036854775807∧n ≤ c:=by
 obtain ⟨hm,A,c,hv,hc,_⟩:=h
 exact ⟨A,c,hv,by unfold maxLen at hm;omega,hc⟩
end
def RowO (w:World) (lo hi sz:Nat) (v:Value) (n:Nat) (f:Nat → Value):Prop:=Row w lo hi sz v n f∧Cel w lo hi sz v n
theorem RowO.of_own {w:World} {b lo hi sz n:Nat} {v:Value} {f:Nat → Value} (h:Own w b sz v n f) (h1:0 < n → lo ≤ b∧b < hi):RowO w lo hi sz v n f:=⟨h.row h1,Cel.of_own h h1⟩
def MkPost (lo hi:Nat) (k:Int) (w:World) (e:Ending) (w' : World):Prop:=e=.returned (.int .i64 k)∧Mrk lo hi w w'
theorem Row.setLow {w:World} {lo hi sz n:Nat} {v:Value} {f:Nat → Value} (h:Row w lo hi sz v n f) {p:Addr} (hp:p.block < lo) (u:Value):Row (w.setCell p u) lo hi sz v n f:=by
 obtain ⟨hm,A,c,hv,hc,hr⟩:=h
 refine ⟨hm,A,c,hv,hc,fun hn=>?_⟩
 obtain ⟨b,off,hA,h1,h2,h3⟩:=hr hn
 have hbl:=Below.heap_setCell w p u b (by omega)
 exact ⟨b,off,hA,h1,h2,fun i hi=>(World.cell?_of_block (w:=w) (a:=⟨b,off+i,none⟩) hbl).trans (h3 i hi)⟩
theorem Row.sl {w:World} {lo hi sz n:Nat} {v:Value} {f:Nat → Value} (h:Row w lo hi sz v n f):∃ A c,v=.slice A n c:=by
 obtain ⟨_,A,c,hv,_⟩:=h
 exact ⟨A,c,hv⟩
theorem Cel.setCell {w:World} {lo hi sz n:Nat} {v:Value} (h:Cel w lo hi sz v n) (p:Addr) (u:Value):Cel (w.setCell p u) lo hi sz v n :=
 h.mrk ((Mrk.refl p.block (p.block+1) w).setCell ⟨Nat.le_refl _,by omega⟩ u)
theorem RowO.setLow {w:World} {lo hi sz n:Nat} {v:Value} {f:Nat → Value} (h:RowO w lo hi sz v n f) {p:Addr} (hp:p.block < lo) (u:Value):RowO (w.setCell p u) lo hi sz v n f:=⟨Row.setLow h.1 hp u,h.2.setCell p u⟩
theorem RowO.ext {w w' : World} {lo hi sz n:Nat} {v:Value} {f:Nat → Value} (h:RowO w lo hi sz v n f) (hx:Ext w w') (hh:hi ≤ w.heap.size):RowO w' lo hi sz v n f:=⟨Row.ext h.1 hx hh,h.2.mrk (Mrk.of_ext (lo:=0) (hi:=0) hx)⟩
theorem RowO.mono {w:World} {lo hi lo' hi' sz n:Nat} {v:Value} {f:Nat → Value} (h:RowO w lo hi sz v n f) (h1:lo' ≤ lo) (h2:hi ≤ hi'):RowO w lo' hi' sz v n f:=⟨Row.mono h.1 h1 h2,h.2.mono h1 h2⟩
theorem RowO.sl {w:World} {lo hi sz n:Nat} {v:Value} {f:Nat → Value} (h:RowO w lo hi sz v n f):∃ A c,v=.slice A n c:=Row.sl h.1
theorem RowO.wid {w w' : World} {lo sz n:Nat} {v:Value} {f:Nat → Value} (h:RowO w lo w.heap.size sz v n f) (hx:Ext w w'):RowO w' lo w'.heap.size sz v n f:=(RowO.ext h hx (Nat.le_refl _)).mono (Nat.le_refl _) hx.size
end Go.Proofs.YtechbeegbhlppaaGreatDoor
namespace Go.Proofs.YtechbeegbhlppaaGreatDoor
set_option linter.unusedVariables false
set_option linter.unusedSimpArgs false
open Go.RowKit
attribute [local go_sem] cell_onto
set_option maxRecDepth 100000 in
set_option maxHeartbeats 4000000 in
theorem laws_markReignS_c (v:Value) (lo hi n:Nat) (k:Int) (w:World) (h:Cel w lo hi 3 v n) (hn:n ≤ 1048576) (hk0:0 < k) (hk:k ≤ 1125899906842624) :
  Calls Tryz.prog 130 #[v,.int .i64 k] w (MkPost lo hi (k+n * 3) w):=by
 obtain ⟨A,c,rfl,hm,hc⟩:=h.len
 have H:=qh h
 clear h
 go_enter Tryz.func130,Tryz.ntmps130
 go_wp2_with fail
 go_loopg [1,5] n (fun q t i wr=>∃ (j:Nat),j+q=n∧i=.int .i64 j∧t=.int .i64 (k+(j:Int) * 3)∧Mrk lo hi w wr)
 case atStart=>exact ⟨0,by omega,rfl,by simp,Mrk.refl _ _ _⟩
 case round =>
  obtain ⟨j,hj,rfl,rfl,hx⟩:=hrel
  have Hx:=qh hx
  clear hx
  by_cases hlt:j < n
  ·obtain ⟨_,A', c', e,_,hr⟩:=H.out.mrk Hx.out
   injection e with e1 e2 e3
   subst e1
   subst e3
   obtain ⟨b,off,rfl,hlo,hhi,hbr,hcs⟩:=hr (by omega)
   have Hcs:=qh hcs
   clear hr hcs
   have Hw0:=qh (Mrk.refl lo hi wr)
   have hb0:b < wr.heap.size:=hbr
   go_wp2_with fail
   refine Calls.mono (laws_markText (k+(j:Int) * 3) _ (by omega) (by omega)) ?_
   rintro e w1 ⟨rfl,hx1⟩
   have Hw1:=qh (show Mrk lo hi wr w1 from (Hw0.out).trans (Mrk.of_ext hx1))
   have hb1:b < w1.heap.size:=Nat.lt_of_lt_of_le hbr Hw1.out.off.size
   clear hx1
   generalize mkT (k+(j:Int) * 3)=mt0 at *
   obtain ⟨⟨x0,cx0⟩,fx0⟩:=(show (∃ u,w1.cell? ⟨b,off+j * 3,none⟩=some u)∧w1.frozen? ⟨b,off+j * 3,none⟩=false from by have t:=Hcs.out (j * 3) (by omega);exact ⟨Hw1.out.has b _ hbr t.1,Hw1.out.fz b _ hbr t.2⟩)
   obtain ⟨⟨x1,cx1⟩,fx1⟩:=(show (∃ u,w1.cell? ⟨b,off+j * 3+1,none⟩=some u)∧w1.frozen? ⟨b,off+j * 3+1,none⟩=false from by have t:=Hcs.out (j * 3+1) (by omega);rw [← Nat.add_assoc] at t;exact ⟨Hw1.out.has b _ hbr t.1,Hw1.out.fz b _ hbr t.2⟩)
   obtain ⟨⟨x2,cx2⟩,fx2⟩:=(show (∃ u,w1.cell? ⟨b,off+j * 3+2,none⟩=some u)∧w1.frozen? ⟨b,off+j * 3+2,none⟩=false from by have t:=Hcs.out (j * 3+2) (by omega);rw [← Nat.add_assoc] at t;exact ⟨Hw1.out.has b _ hbr t.1,Hw1.out.fz b _ hbr t.2⟩)
   go_wp2_with fail
   go_roundg (n - (j+1))
   case measure=>omega
   case rel =>
    refine ⟨j+1,by omega,by go_num,by congr 1;simp;omega,?_⟩
    exact Hx.out.trans (((Hw1.out.setCell (p:=⟨b,off+j * 3,none⟩) ⟨hlo,hhi⟩ (.string mt0)).setCell (p:=⟨b,off+j * 3+1,none⟩) ⟨hlo,hhi⟩ (.int .i64 (k+(j:Int) * 3+1))).setCell (p:=⟨b,off+j * 3+2,none⟩) ⟨hlo,hhi⟩ (.int .i64 (k+(j:Int) * 3+1+1)))
  ·obtain rfl:j=n:=by omega
   go_wp2_with fail
   go_ret
   exact ⟨by first | rfl | simp,Hx.out⟩
set_option maxRecDepth 100000 in
set_option maxHeartbeats 4000000 in
theorem laws_markPersonS_c (v:Value) (lo hi n:Nat) (k:Int) (w:World) (h:Cel w lo hi 3 v n) (hn:n ≤ 1048576) (hk0:0 < k) (hk:k ≤ 1125899906842624) :
  Calls Tryz.prog 131 #[v,.int .i64 k] w (MkPost lo hi (k+n * 3) w):=by
 obtain ⟨A,c,rfl,hm,hc⟩:=h.len
 have H:=qh h
 clear h
 go_enter Tryz.func131,Tryz.ntmps131
 go_wp2_with fail
 go_loopg [1,5] n (fun q t i wr=>∃ (j:Nat),j+q=n∧i=.int .i64 j∧t=.int .i64 (k+(j:Int) * 3)∧Mrk lo hi w wr)
 case atStart=>exact ⟨0,by omega,rfl,by simp,Mrk.refl _ _ _⟩
 case round =>
  obtain ⟨j,hj,rfl,rfl,hx⟩:=hrel
  have Hx:=qh hx
  clear hx
  by_cases hlt:j < n
  ·obtain ⟨_,A', c', e,_,hr⟩:=H.out.mrk Hx.out
   injection e with e1 e2 e3
   subst e1
   subst e3
   obtain ⟨b,off,rfl,hlo,hhi,hbr,hcs⟩:=hr (by omega)
   have Hcs:=qh hcs
   clear hr hcs
   have Hw0:=qh (Mrk.refl lo hi wr)
   have hb0:b < wr.heap.size:=hbr
   go_wp2_with fail
   refine Calls.mono (laws_markText (k+(j:Int) * 3) _ (by omega) (by omega)) ?_
   rintro e w1 ⟨rfl,hx1⟩
   have Hw1:=qh (show Mrk lo hi wr w1 from (Hw0.out).trans (Mrk.of_ext hx1))
   have hb1:b < w1.heap.size:=Nat.lt_of_lt_of_le hbr Hw1.out.off.size
   clear hx1
   generalize mkT (k+(j:Int) * 3)=mt0 at *
   obtain ⟨⟨x0,cx0⟩,fx0⟩:=(show (∃ u,w1.cell? ⟨b,off+j * 3,none⟩=some u)∧w1.frozen? ⟨b,off+j * 3,none⟩=false from by have t:=Hcs.out (j * 3) (by omega);exact ⟨Hw1.out.has b _ hbr t.1,Hw1.out.fz b _ hbr t.2⟩)
   obtain ⟨⟨x1,cx1⟩,fx1⟩:=(show (∃ u,w1.cell? ⟨b,off+j * 3+1,none⟩=some u)∧w1.frozen? ⟨b,off+j * 3+1,none⟩=false from by have t:=Hcs.out (j * 3+1) (by omega);rw [← Nat.add_assoc] at t;exact ⟨Hw1.out.has b _ hbr t.1,Hw1.out.fz b _ hbr t.2⟩)
   obtain ⟨⟨x2,cx2⟩,fx2⟩:=(show (∃ u,w1.cell? ⟨b,off+j * 3+2,none⟩=some u)∧w1.frozen? ⟨b,off+j * 3+2,none⟩=false from by have t:=Hcs.out (j * 3+2) (by omega);rw [← Nat.add_assoc] at t;exact ⟨Hw1.out.has b _ hbr t.1,Hw1.out.fz b _ hbr t.2⟩)
   go_wp2_with fail
   go_roundg (n - (j+1))
   case measure=>omega
   case rel =>
    refine ⟨j+1,by omega,by go_num,by congr 1;simp;omega,?_⟩
    exact Hx.out.trans (((Hw1.out.setCell (p:=⟨b,off+j * 3,none⟩) ⟨hlo,hhi⟩ (.string mt0)).setCell (p:=⟨b,off+j * 3+1,none⟩) ⟨hlo,hhi⟩ (.int .i64 (k+(j:Int) * 3+1))).setCell (p:=⟨b,off+j * 3+2,none⟩) ⟨hlo,hhi⟩ (.int .i64 (k+(j:Int) * 3+1+1)))
  ·obtain rfl:j=n:=by omega
   go_wp2_with fail
   go_ret
   exact ⟨by first | rfl | simp,Hx.out⟩
set_option maxRecDepth 100000 in
set_option maxHeartbeats 4000000 in
theorem laws_markTermS_c (v:Value) (lo hi n:Nat) (k:Int) (w:World) (h:Cel w lo hi 4 v n) (hn:n ≤ 1048576) (hk0:0 < k) (hk:k ≤ 1125899906842624) :
  Calls Tryz.prog 132 #[v,.int .i64 k] w (MkPost lo hi (k+n * 4) w):=by
 obtain ⟨A,c,rfl,hm,hc⟩:=h.len
 have H:=qh h
 clear h
 go_enter Tryz.func132,Tryz.ntmps132
 go_wp2_with fail
 go_loopg [1,5] n (fun q t i wr=>∃ (j:Nat),j+q=n∧i=.int .i64 j∧t=.int .i64 (k+(j:Int) * 4)∧Mrk lo hi w wr)
 case atStart=>exact ⟨0,by omega,rfl,by simp,Mrk.refl _ _ _⟩
 case round =>
  obtain ⟨j,hj,rfl,rfl,hx⟩:=hrel
  have Hx:=qh hx
  clear hx
  by_cases hlt:j < n
  ·obtain ⟨_,A', c', e,_,hr⟩:=H.out.mrk Hx.out
   injection e with e1 e2 e3
   subst e1
   subst e3
   obtain ⟨b,off,rfl,hlo,hhi,hbr,hcs⟩:=hr (by omega)
   have Hcs:=qh hcs
   clear hr hcs
   have Hw0:=qh (Mrk.refl lo hi wr)
   have hb0:b < wr.heap.size:=hbr
   go_wp2_with fail
   refine Calls.mono (laws_markText (k+(j:Int) * 4) _ (by omega) (by omega)) ?_
   rintro e w1 ⟨rfl,hx1⟩
   have Hw1:=qh (show Mrk lo hi wr w1 from (Hw0.out).trans (Mrk.of_ext hx1))
   have hb1:b < w1.heap.size:=Nat.lt_of_lt_of_le hbr Hw1.out.off.size
   clear hx1
   generalize mkT (k+(j:Int) * 4)=mt0 at *
   obtain ⟨⟨x0,cx0⟩,fx0⟩:=(show (∃ u,w1.cell? ⟨b,off+j * 4,none⟩=some u)∧w1.frozen? ⟨b,off+j * 4,none⟩=false from by have t:=Hcs.out (j * 4) (by omega);exact ⟨Hw1.out.has b _ hbr t.1,Hw1.out.fz b _ hbr t.2⟩)
   go_wp2_with fail
   refine Calls.mono (laws_markText (k+(j:Int) * 4+1) _ (by omega) (by omega)) ?_
   rintro e w2 ⟨rfl,hx2⟩
   have Hw2:=qh (show Mrk lo hi wr w2 from ((Hw1.out.setCell (p:=⟨b,off+j * 4,none⟩) ⟨hlo,hhi⟩ (.string mt0))).trans (Mrk.of_ext hx2))
   have hb2:b < w2.heap.size:=Nat.lt_of_lt_of_le hbr Hw2.out.off.size
   clear hx2
   clear cx0 fx0
   generalize mkT (k+(j:Int) * 4+1)=mt1 at *
   obtain ⟨⟨x1,cx1⟩,fx1⟩:=(show (∃ u,w2.cell? ⟨b,off+j * 4+1,none⟩=some u)∧w2.frozen? ⟨b,off+j * 4+1,none⟩=false from by have t:=Hcs.out (j * 4+1) (by omega);rw [← Nat.add_assoc] at t;exact ⟨Hw2.out.has b _ hbr t.1,Hw2.out.fz b _ hbr t.2⟩)
   obtain ⟨⟨x2,cx2⟩,fx2⟩:=(show (∃ u,w2.cell? ⟨b,off+j * 4+2,none⟩=some u)∧w2.frozen? ⟨b,off+j * 4+2,none⟩=false from by have t:=Hcs.out (j * 4+2) (by omega);rw [← Nat.add_assoc] at t;exact ⟨Hw2.out.has b _ hbr t.1,Hw2.out.fz b _ hbr t.2⟩)
   obtain ⟨⟨x3,cx3⟩,fx3⟩:=(show (∃ u,w2.cell? ⟨b,off+j * 4+3,none⟩=some u)∧w2.frozen? ⟨b,off+j * 4+3,none⟩=false from by have t:=Hcs.out (j * 4+3) (by omega);rw [← Nat.add_assoc] at t;exact ⟨Hw2.out.has b _ hbr t.1,Hw2.out.fz b _ hbr t.2⟩)
   go_wp2_with fail
   go_roundg (n - (j+1))
   case measure=>omega
   case rel =>
    refine ⟨j+1,by omega,by go_num,by congr 1;simp;omega,?_⟩
    exact Hx.out.trans (((Hw2.out.setCell (p:=⟨b,off+j * 4+1,none⟩) ⟨hlo,hhi⟩ (.string mt1)).setCell (p:=⟨b,off+j * 4+2,none⟩) ⟨hlo,hhi⟩ (.int .i64 (k+(j:Int) * 4+1+1))).setCell (p:=⟨b,off+j * 4+3,none⟩) ⟨hlo,hhi⟩ (.int .i64 (k+(j:Int) * 4+1+1+1)))
  ·obtain rfl:j=n:=by omega
   go_wp2_with fail
   go_ret
   exact ⟨by first | rfl | simp,Hx.out⟩
set_option maxRecDepth 100000 in
set_option maxHeartbeats 4000000 in
theorem laws_markStringS_c (v:Value) (lo hi n:Nat) (k:Int) (w:World) (h:Cel w lo hi 1 v n) (hn:n ≤ 1048576) (hk0:0 < k) (hk:k ≤ 1125899906842624) :
  Calls Tryz.prog 70 #[v,.int .i64 k] w (MkPost lo hi (k+n) w):=by
 obtain ⟨A,c,rfl,hm,hc⟩:=h.len
 have H:=qh h
 clear h
 go_enter Tryz.func70,Tryz.ntmps70
 go_wp2_with fail
 go_loopg [1,5] n (fun q t i wr=>∃ (j:Nat),j+q=n∧i=.int .i64 j∧t=.int .i64 (k+(j:Int))∧Mrk lo hi w wr)
 case atStart=>exact ⟨0,by omega,rfl,by simp,Mrk.refl _ _ _⟩
 case round =>
  obtain ⟨j,hj,rfl,rfl,hx⟩:=hrel
  have Hx:=qh hx
  clear hx
  by_cases hlt:j < n
  ·obtain ⟨_,A', c', e,_,hr⟩:=H.out.mrk Hx.out
   injection e with e1 e2 e3
   subst e1
   subst e3
   obtain ⟨b,off,rfl,hlo,hhi,hbr,hcs⟩:=hr (by omega)
   have Hcs:=qh hcs
   clear hr hcs
   have Hw0:=qh (Mrk.refl lo hi wr)
   have hb0:b < wr.heap.size:=hbr
   go_wp2_with fail
   refine Calls.mono (laws_markText (k+(j:Int)) _ (by omega) (by omega)) ?_
   rintro e w1 ⟨rfl,hx1⟩
   have Hw1:=qh (show Mrk lo hi wr w1 from (Hw0.out).trans (Mrk.of_ext hx1))
   have hb1:b < w1.heap.size:=Nat.lt_of_lt_of_le hbr Hw1.out.off.size
   clear hx1
   generalize mkT (k+(j:Int))=mt0 at *
   obtain ⟨⟨x0,cx0⟩,fx0⟩:=(show (∃ u,w1.cell? ⟨b,off+j,none⟩=some u)∧w1.frozen? ⟨b,off+j,none⟩=false from by have t:=Hcs.out (j) (by omega);exact ⟨Hw1.out.has b _ hbr t.1,Hw1.out.fz b _ hbr t.2⟩)
   go_wp2_with fail
   go_roundg (n - (j+1))
   case measure=>omega
   case rel =>
    refine ⟨j+1,by omega,by go_num,by congr 1;simp;omega,?_⟩
    exact Hx.out.trans (Hw1.out.setCell (p:=⟨b,off+j,none⟩) ⟨hlo,hhi⟩ (.string mt0))
  ·obtain rfl:j=n:=by omega
   go_wp2_with fail
   go_ret
   exact ⟨by first | rfl | simp,Hx.out⟩
set_option maxRecDepth 100000 in
set_option maxHeartbeats 4000000 in
theorem laws_markWayS_c (v:Value) (lo hi n:Nat) (k:Int) (w:World) (h:Cel w lo hi 3 v n) (hn:n ≤ 1048576) (hk0:0 < k) (hk:k ≤ 1125899906842624) :
  Calls Tryz.prog 133 #[v,.int .i64 k] w (MkPost lo hi (k+n * 3) w):=by
 obtain ⟨A,c,rfl,hm,hc⟩:=h.len
 have H:=qh h
 clear h
 go_enter Tryz.func133,Tryz.ntmps133
 go_wp2_with fail
 go_loopg [1,5] n (fun q t i wr=>∃ (j:Nat),j+q=n∧i=.int .i64 j∧t=.int .i64 (k+(j:Int) * 3)∧Mrk lo hi w wr)
 case atStart=>exact ⟨0,by omega,rfl,by simp,Mrk.refl _ _ _⟩
 case round =>
  obtain ⟨j,hj,rfl,rfl,hx⟩:=hrel
  have Hx:=qh hx
  clear hx
  by_cases hlt:j < n
  ·obtain ⟨_,A', c', e,_,hr⟩:=H.out.mrk Hx.out
   injection e with e1 e2 e3
   subst e1
   subst e3
   obtain ⟨b,off,rfl,hlo,hhi,hbr,hcs⟩:=hr (by omega)
   have Hcs:=qh hcs
   clear hr hcs
   have Hw0:=qh (Mrk.refl lo hi wr)
   have hb0:b < wr.heap.size:=hbr
   obtain ⟨⟨x0,cx0⟩,fx0⟩:=(show (∃ u,wr.cell? ⟨b,off+j * 3,none⟩=some u)∧wr.frozen? ⟨b,off+j * 3,none⟩=false from by have t:=Hcs.out (j * 3) (by omega);exact ⟨Hw0.out.has b _ hbr t.1,Hw0.out.fz b _ hbr t.2⟩)
   obtain ⟨⟨x1,cx1⟩,fx1⟩:=(show (∃ u,wr.cell? ⟨b,off+j * 3+1,none⟩=some u)∧wr.frozen? ⟨b,off+j * 3+1,none⟩=false from by have t:=Hcs.out (j * 3+1) (by omega);rw [← Nat.add_assoc] at t;exact ⟨Hw0.out.has b _ hbr t.1,Hw0.out.fz b _ hbr t.2⟩)
   obtain ⟨⟨x2,cx2⟩,fx2⟩:=(show (∃ u,wr.cell? ⟨b,off+j * 3+2,none⟩=some u)∧wr.frozen? ⟨b,off+j * 3+2,none⟩=false from by have t:=Hcs.out (j * 3+2) (by omega);rw [← Nat.add_assoc] at t;exact ⟨Hw0.out.has b _ hbr t.1,Hw0.out.fz b _ hbr t.2⟩)
   go_wp2_with fail
   go_roundg (n - (j+1))
   case measure=>omega
   case rel =>
    refine ⟨j+1,by omega,by go_num,by congr 1;simp;omega,?_⟩
    exact Hx.out.trans (((Hw0.out.setCell (p:=⟨b,off+j * 3,none⟩) ⟨hlo,hhi⟩ (.int .i64 (k+(j:Int) * 3))).setCell (p:=⟨b,off+j * 3+1,none⟩) ⟨hlo,hhi⟩ (.int .i64 (k+(j:Int) * 3+1))).setCell (p:=⟨b,off+j * 3+2,none⟩) ⟨hlo,hhi⟩ (.int .i64 (k+(j:Int) * 3+1+1)))
  ·obtain rfl:j=n:=by omega
   go_wp2_with fail
   go_ret
   exact ⟨by first | rfl | simp,Hx.out⟩
set_option maxRecDepth 100000 in
set_option maxHeartbeats 4000000 in
theorem laws_markStayS_c (v:Value) (lo hi n:Nat) (k:Int) (w:World) (h:Cel w lo hi 3 v n) (hn:n ≤ 1048576) (hk0:0 < k) (hk:k ≤ 1125899906842624) :
  Calls Tryz.prog 65 #[v,.int .i64 k] w (MkPost lo hi (k+n * 3) w):=by
 obtain ⟨A,c,rfl,hm,hc⟩:=h.len
 have H:=qh h
 clear h
 go_enter Tryz.func65,Tryz.ntmps65
 go_wp2_with fail
 go_loopg [1,5] n (fun q t i wr=>∃ (j:Nat),j+q=n∧i=.int .i64 j∧t=.int .i64 (k+(j:Int) * 3)∧Mrk lo hi w wr)
 case atStart=>exact ⟨0,by omega,rfl,by simp,Mrk.refl _ _ _⟩
 case round =>
  obtain ⟨j,hj,rfl,rfl,hx⟩:=hrel
  have Hx:=qh hx
  clear hx
  by_cases hlt:j < n
  ·obtain ⟨_,A', c', e,_,hr⟩:=H.out.mrk Hx.out
   injection e with e1 e2 e3
   subst e1
   subst e3
   obtain ⟨b,off,rfl,hlo,hhi,hbr,hcs⟩:=hr (by omega)
   have Hcs:=qh hcs
   clear hr hcs
   have Hw0:=qh (Mrk.refl lo hi wr)
   have hb0:b < wr.heap.size:=hbr
   obtain ⟨⟨x0,cx0⟩,fx0⟩:=(show (∃ u,wr.cell? ⟨b,off+j * 3,none⟩=some u)∧wr.frozen? ⟨b,off+j * 3,none⟩=false from by have t:=Hcs.out (j * 3) (by omega);exact ⟨Hw0.out.has b _ hbr t.1,Hw0.out.fz b _ hbr t.2⟩)
   obtain ⟨⟨x1,cx1⟩,fx1⟩:=(show (∃ u,wr.cell? ⟨b,off+j * 3+1,none⟩=some u)∧wr.frozen? ⟨b,off+j * 3+1,none⟩=false from by have t:=Hcs.out (j * 3+1) (by omega);rw [← Nat.add_assoc] at t;exact ⟨Hw0.out.has b _ hbr t.1,Hw0.out.fz b _ hbr t.2⟩)
   obtain ⟨⟨x2,cx2⟩,fx2⟩:=(show (∃ u,wr.cell? ⟨b,off+j * 3+2,none⟩=some u)∧wr.frozen? ⟨b,off+j * 3+2,none⟩=false from by have t:=Hcs.out (j * 3+2) (by omega);rw [← Nat.add_assoc] at t;exact ⟨Hw0.out.has b _ hbr t.1,Hw0.out.fz b _ hbr t.2⟩)
   go_wp2_with fail
   go_roundg (n - (j+1))
   case measure=>omega
   case rel =>
    refine ⟨j+1,by omega,by go_num,by congr 1;simp;omega,?_⟩
    exact Hx.out.trans (((Hw0.out.setCell (p:=⟨b,off+j * 3,none⟩) ⟨hlo,hhi⟩ (.int .i64 (k+(j:Int) * 3))).setCell (p:=⟨b,off+j * 3+1,none⟩) ⟨hlo,hhi⟩ (.int .i64 (k+(j:Int) * 3+1))).setCell (p:=⟨b,off+j * 3+2,none⟩) ⟨hlo,hhi⟩ (.int .i64 (k+(j:Int) * 3+1+1)))
  ·obtain rfl:j=n:=by omega
   go_wp2_with fail
   go_ret
   exact ⟨by first | rfl | simp,Hx.out⟩
set_option maxRecDepth 100000 in
set_option maxHeartbeats 4000000 in
theorem laws_markMarkS_c (v:Value) (lo hi n:Nat) (k:Int) (w:World) (h:Cel w lo hi 3 v n) (hn:n ≤ 1048576) (hk0:0 < k) (hk:k ≤ 1125899906842624) :
  Calls Tryz.prog 66 #[v,.int .i64 k] w (MkPost lo hi (k+n * 3) w):=by
 obtain ⟨A,c,rfl,hm,hc⟩:=h.len
 have H:=qh h
 clear h
 go_enter Tryz.func66,Tryz.ntmps66
 go_wp2_with fail
 go_loopg [1,5] n (fun q t i wr=>∃ (j:Nat),j+q=n∧i=.int .i64 j∧t=.int .i64 (k+(j:Int) * 3)∧Mrk lo hi w wr)
 case atStart=>exact ⟨0,by omega,rfl,by simp,Mrk.refl _ _ _⟩
 case round =>
  obtain ⟨j,hj,rfl,rfl,hx⟩:=hrel
  have Hx:=qh hx
  clear hx
  by_cases hlt:j < n
  ·obtain ⟨_,A', c', e,_,hr⟩:=H.out.mrk Hx.out
   injection e with e1 e2 e3
   subst e1
   subst e3
   obtain ⟨b,off,rfl,hlo,hhi,hbr,hcs⟩:=hr (by omega)
   have Hcs:=qh hcs
   clear hr hcs
   have Hw0:=qh (Mrk.refl lo hi wr)
   have hb0:b < wr.heap.size:=hbr
   go_wp2_with fail
   refine Calls.mono (laws_markText (k+(j:Int) * 3) _ (by omega) (by omega)) ?_
   rintro e w1 ⟨rfl,hx1⟩
   have Hw1:=qh (show Mrk lo hi wr w1 from (Hw0.out).trans (Mrk.of_ext hx1))
   have hb1:b < w1.heap.size:=Nat.lt_of_lt_of_le hbr Hw1.out.off.size
   clear hx1
   generalize mkT (k+(j:Int) * 3)=mt0 at *
   obtain ⟨⟨x0,cx0⟩,fx0⟩:=(show (∃ u,w1.cell? ⟨b,off+j * 3,none⟩=some u)∧w1.frozen? ⟨b,off+j * 3,none⟩=false from by have t:=Hcs.out (j * 3) (by omega);exact ⟨Hw1.out.has b _ hbr t.1,Hw1.out.fz b _ hbr t.2⟩)
   obtain ⟨⟨x1,cx1⟩,fx1⟩:=(show (∃ u,w1.cell? ⟨b,off+j * 3+1,none⟩=some u)∧w1.frozen? ⟨b,off+j * 3+1,none⟩=false from by have t:=Hcs.out (j * 3+1) (by omega);rw [← Nat.add_assoc] at t;exact ⟨Hw1.out.has b _ hbr t.1,Hw1.out.fz b _ hbr t.2⟩)
   obtain ⟨⟨x2,cx2⟩,fx2⟩:=(show (∃ u,w1.cell? ⟨b,off+j * 3+2,none⟩=some u)∧w1.frozen? ⟨b,off+j * 3+2,none⟩=false from by have t:=Hcs.out (j * 3+2) (by omega);rw [← Nat.add_assoc] at t;exact ⟨Hw1.out.has b _ hbr t.1,Hw1.out.fz b _ hbr t.2⟩)
   go_wp2_with fail
   go_roundg (n - (j+1))
   case measure=>omega
   case rel =>
    refine ⟨j+1,by omega,by go_num,by congr 1;simp;omega,?_⟩
    exact Hx.out.trans (((Hw1.out.setCell (p:=⟨b,off+j * 3,none⟩) ⟨hlo,hhi⟩ (.string mt0)).setCell (p:=⟨b,off+j * 3+1,none⟩) ⟨hlo,hhi⟩ (.int .i64 (k+(j:Int) * 3+1))).setCell (p:=⟨b,off+j * 3+2,none⟩) ⟨hlo,hhi⟩ (.int .i64 (k+(j:Int) * 3+1+1)))
  ·obtain rfl:j=n:=by omega
   go_wp2_with fail
   go_ret
   exact ⟨by first | rfl | simp,Hx.out⟩
set_option maxRecDepth 100000 in
set_option maxHeartbeats 4000000 in
theorem laws_markClauseS_c (v:Value) (lo hi n:Nat) (k:Int) (w:World) (h:Cel w lo hi 8 v n) (hn:n ≤ 1048576) (hk0:0 < k) (hk:k ≤ 1125899906842624) :
  Calls Tryz.prog 68 #[v,.int .i64 k] w (MkPost lo hi (k+n * 8) w):=by
 obtain ⟨A,c,rfl,hm,hc⟩:=h.len
 have H:=qh h
 clear h
 go_enter Tryz.func68,Tryz.ntmps68
 go_wp2_with fail
 go_loopg [1,5] n (fun q t i wr=>∃ (j:Nat),j+q=n∧i=.int .i64 j∧t=.int .i64 (k+(j:Int) * 8)∧Mrk lo hi w wr)
 case atStart=>exact ⟨0,by omega,rfl,by simp,Mrk.refl _ _ _⟩
 case round =>
  obtain ⟨j,hj,rfl,rfl,hx⟩:=hrel
  have Hx:=qh hx
  clear hx
  by_cases hlt:j < n
  ·obtain ⟨_,A', c', e,_,hr⟩:=H.out.mrk Hx.out
   injection e with e1 e2 e3
   subst e1
   subst e3
   obtain ⟨b,off,rfl,hlo,hhi,hbr,hcs⟩:=hr (by omega)
   have Hcs:=qh hcs
   clear hr hcs
   have Hw0:=qh (Mrk.refl lo hi wr)
   have hb0:b < wr.heap.size:=hbr
   obtain ⟨⟨x0,cx0⟩,fx0⟩:=(show (∃ u,wr.cell? ⟨b,off+j * 8,none⟩=some u)∧wr.frozen? ⟨b,off+j * 8,none⟩=false from by have t:=Hcs.out (j * 8) (by omega);exact ⟨Hw0.out.has b _ hbr t.1,Hw0.out.fz b _ hbr t.2⟩)
   obtain ⟨⟨x1,cx1⟩,fx1⟩:=(show (∃ u,wr.cell? ⟨b,off+j * 8+1,none⟩=some u)∧wr.frozen? ⟨b,off+j * 8+1,none⟩=false from by have t:=Hcs.out (j * 8+1) (by omega);rw [← Nat.add_assoc] at t;exact ⟨Hw0.out.has b _ hbr t.1,Hw0.out.fz b _ hbr t.2⟩)
   obtain ⟨⟨x2,cx2⟩,fx2⟩:=(show (∃ u,wr.cell? ⟨b,off+j * 8+2,none⟩=some u)∧wr.frozen? ⟨b,off+j * 8+2,none⟩=false from by have t:=Hcs.out (j * 8+2) (by omega);rw [← Nat.add_assoc] at t;exact ⟨Hw0.out.has b _ hbr t.1,Hw0.out.fz b _ hbr t.2⟩)
   obtain ⟨⟨x3,cx3⟩,fx3⟩:=(show (∃ u,wr.cell? ⟨b,off+j * 8+3,none⟩=some u)∧wr.frozen? ⟨b,off+j * 8+3,none⟩=false from by have t:=Hcs.out (j * 8+3) (by omega);rw [← Nat.add_assoc] at t;exact ⟨Hw0.out.has b _ hbr t.1,Hw0.out.fz b _ hbr t.2⟩)
   obtain ⟨⟨x4,cx4⟩,fx4⟩:=(show (∃ u,wr.cell? ⟨b,off+j * 8+4,none⟩=some u)∧wr.frozen? ⟨b,off+j * 8+4,none⟩=false from by have t:=Hcs.out (j * 8+4) (by omega);rw [← Nat.add_assoc] at t;exact ⟨Hw0.out.has b _ hbr t.1,Hw0.out.fz b _ hbr t.2⟩)
   obtain ⟨⟨x5,cx5⟩,fx5⟩:=(show (∃ u,wr.cell? ⟨b,off+j * 8+5,none⟩=some u)∧wr.frozen? ⟨b,off+j * 8+5,none⟩=false from by have t:=Hcs.out (j * 8+5) (by omega);rw [← Nat.add_assoc] at t;exact ⟨Hw0.out.has b _ hbr t.1,Hw0.out.fz b _ hbr t.2⟩)
   obtain ⟨⟨x6,cx6⟩,fx6⟩:=(show (∃ u,wr.cell? ⟨b,off+j * 8+6,none⟩=some u)∧wr.frozen? ⟨b,off+j * 8+6,none⟩=false from by have t:=Hcs.out (j * 8+6) (by omega);rw [← Nat.add_assoc] at t;exact ⟨Hw0.out.has b _ hbr t.1,Hw0.out.fz b _ hbr t.2⟩)
   go_wp2_with fail
   refine Calls.mono (laws_markText (k+(j:Int) * 8+1+1+1+1+1+1+1) _ (by omega) (by omega)) ?_
   rintro e w1 ⟨rfl,hx1⟩
   have Hw1:=qh (show Mrk lo hi wr w1 from ((((((((Hw0.out.setCell (p:=⟨b,off+j * 8,none⟩) ⟨hlo,hhi⟩ (.int .i64 (k+(j:Int) * 8))).setCell (p:=⟨b,off+j * 8+1,none⟩) ⟨hlo,hhi⟩ (.int .i64 (k+(j:Int) * 8+1))).setCell (p:=⟨b,off+j * 8+2,none⟩) ⟨hlo,hhi⟩ (.int .i64 (k+(j:Int) * 8+1+1))).setCell (p:=⟨b,off+j * 8+3,none⟩) ⟨hlo,hhi⟩ (.int .i64 (k+(j:Int) * 8+1+1+1))).setCell (p:=⟨b,off+j * 8+4,none⟩) ⟨hlo,hhi⟩ (.int .i64 (k+(j:Int) * 8+1+1+1+1))).setCell (p:=⟨b,off+j * 8+5,none⟩) ⟨hlo,hhi⟩ (.int .i64 (k+(j:Int) * 8+1+1+1+1+1))).setCell (p:=⟨b,off+j * 8+6,none⟩) ⟨hlo,hhi⟩ (.int .i64 (k+(j:Int) * 8+1+1+1+1+1+1)))).trans (Mrk.of_ext hx1))
   have hb1:b < w1.heap.size:=Nat.lt_of_lt_of_le hbr Hw1.out.off.size
   clear hx1
   clear cx0 fx0 cx1 fx1 cx2 fx2 cx3 fx3 cx4 fx4 cx5 fx5 cx6 fx6
   generalize mkT (k+(j:Int) * 8+1+1+1+1+1+1+1)=mt7 at *
   obtain ⟨⟨x7,cx7⟩,fx7⟩:=(show (∃ u,w1.cell? ⟨b,off+j * 8+7,none⟩=some u)∧w1.frozen? ⟨b,off+j * 8+7,none⟩=false from by have t:=Hcs.out (j * 8+7) (by omega);rw [← Nat.add_assoc] at t;exact ⟨Hw1.out.has b _ hbr t.1,Hw1.out.fz b _ hbr t.2⟩)
   go_wp2_with fail
   go_roundg (n - (j+1))
   case measure=>omega
   case rel =>
    refine ⟨j+1,by omega,by go_num,by congr 1;simp;omega,?_⟩
    exact Hx.out.trans (Hw1.out.setCell (p:=⟨b,off+j * 8+7,none⟩) ⟨hlo,hhi⟩ (.string mt7))
  ·obtain rfl:j=n:=by omega
   go_wp2_with fail
   go_ret
   exact ⟨by first | rfl | simp,Hx.out⟩
set_option maxRecDepth 100000 in
set_option maxHeartbeats 4000000 in
theorem laws_markWitnessS_c (v:Value) (lo hi n:Nat) (k:Int) (w:World) (h:Cel w lo hi 2 v n) (hn:n ≤ 1048576) (hk0:0 < k) (hk:k ≤ 1125899906842624) :
  Calls Tryz.prog 69 #[v,.int .i64 k] w (MkPost lo hi (k+n * 2) w):=by
 obtain ⟨A,c,rfl,hm,hc⟩:=h.len
 have H:=qh h
 clear h
 go_enter Tryz.func69,Tryz.ntmps69
 go_wp2_with fail
 go_loopg [1,5] n (fun q t i wr=>∃ (j:Nat),j+q=n∧i=.int .i64 j∧t=.int .i64 (k+(j:Int) * 2)∧Mrk lo hi w wr)
 case atStart=>exact ⟨0,by omega,rfl,by simp,Mrk.refl _ _ _⟩
 case round =>
  obtain ⟨j,hj,rfl,rfl,hx⟩:=hrel
  have Hx:=qh hx
  clear hx
  by_cases hlt:j < n
  ·obtain ⟨_,A', c', e,_,hr⟩:=H.out.mrk Hx.out
   injection e with e1 e2 e3
   subst e1
   subst e3
   obtain ⟨b,off,rfl,hlo,hhi,hbr,hcs⟩:=hr (by omega)
   have Hcs:=qh hcs
   clear hr hcs
   have Hw0:=qh (Mrk.refl lo hi wr)
   have hb0:b < wr.heap.size:=hbr
   go_wp2_with fail
   refine Calls.mono (laws_markText (k+(j:Int) * 2) _ (by omega) (by omega)) ?_
   rintro e w1 ⟨rfl,hx1⟩
   have Hw1:=qh (show Mrk lo hi wr w1 from (Hw0.out).trans (Mrk.of_ext hx1))
   have hb1:b < w1.heap.size:=Nat.lt_of_lt_of_le hbr Hw1.out.off.size
   clear hx1
   generalize mkT (k+(j:Int) * 2)=mt0 at *
   obtain ⟨⟨x0,cx0⟩,fx0⟩:=(show (∃ u,w1.cell? ⟨b,off+j * 2,none⟩=some u)∧w1.frozen? ⟨b,off+j * 2,none⟩=false from by have t:=Hcs.out (j * 2) (by omega);exact ⟨Hw1.out.has b _ hbr t.1,Hw1.out.fz b _ hbr t.2⟩)
   go_wp2_with fail
   refine Calls.mono (laws_markText (k+(j:Int) * 2+1) _ (by omega) (by omega)) ?_
   rintro e w2 ⟨rfl,hx2⟩
   have Hw2:=qh (show Mrk lo hi wr w2 from ((Hw1.out.setCell (p:=⟨b,off+j * 2,none⟩) ⟨hlo,hhi⟩ (.string mt0))).trans (Mrk.of_ext hx2))
   have hb2:b < w2.heap.size:=Nat.lt_of_lt_of_le hbr Hw2.out.off.size
   clear hx2
   clear cx0 fx0
   generalize mkT (k+(j:Int) * 2+1)=mt1 at *
   obtain ⟨⟨x1,cx1⟩,fx1⟩:=(show (∃ u,w2.cell? ⟨b,off+j * 2+1,none⟩=some u)∧w2.frozen? ⟨b,off+j * 2+1,none⟩=false from by have t:=Hcs.out (j * 2+1) (by omega);rw [← Nat.add_assoc] at t;exact ⟨Hw2.out.has b _ hbr t.1,Hw2.out.fz b _ hbr t.2⟩)
   go_wp2_with fail
   go_roundg (n - (j+1))
   case measure=>omega
   case rel =>
    refine ⟨j+1,by omega,by go_num,by congr 1;simp;omega,?_⟩
    exact Hx.out.trans (Hw2.out.setCell (p:=⟨b,off+j * 2+1,none⟩) ⟨hlo,hhi⟩ (.string mt1))
  ·obtain rfl:j=n:=by omega
   go_wp2_with fail
   go_ret
   exact ⟨by first | rfl | simp,Hx.out⟩
end Go.Proofs.YtechbeegbhlppaaGreatDoor
