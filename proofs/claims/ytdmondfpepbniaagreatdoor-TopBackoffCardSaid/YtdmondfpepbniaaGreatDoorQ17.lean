/- Part 17 of the proof: Frm6 Hd4. -/
import Derived.Deep.CutBlock
import Derived.Deep.Cut
import Derived.Test.YtdmondfpepbniaaGreatDoorQ07
import Derived.Test.YtdmondfpepbniaaGreatDoorQ12
namespace Go.Proofs.YtdmondfpepbniaaGreatDoor
open Go.RowKit
set_option maxRecDepth 100000
set_option maxHeartbeats 4000000
set_option linter.all false
theorem aaw (minor:Int) (p:Option Addr) (l:List Fd) (w:World) (hF:FP w p l) (hl:l.length<= 24) (hsz:oJ l) (hm:ML w):
 Calls Tryz.prog 344 #[.int .i64 minor,.pointer p] w fun e w'=>e= .returned (FT (yV (decide (1<= minor)) l))/\ Below w.heap.size w w':=by
 have hmf: ∀(fn:Fn) (first cap:Array Value) (w:World),(Instr.makeFunc fn first cap).run Tryz.prog w= .ok (.func fn first cap) w:=fun _ _ _ _=>rfl
 have L0:Below w.heap.size w ((w.alloc (.cells (xX eU) 352)).alloc (.cells #[.int .i64 0] 3)):=aj (aj (Below.refl _ _) _) _;have B0:Blk ((w.alloc (.cells (xX eU) 352)).alloc (.cells #[.int .i64 0] 3)) w.heap.size 352 (xX eU):=(Blk.new' _ _ rfl _ _).alloc _;have C0:Blk ((w.alloc (.cells (xX eU) 352)).alloc (.cells #[.int .i64 0] 3)) (w.heap.size+1) 3 #[.int .i64 0]:=Blk.new' _ _ (by simp) _ _
 have hvl:=mX mZ l;have hvz:=qO mZ l hsz;have HR:=Lib.hid (show yV (decide (1<= minor)) l=if qE (decide (1<= minor)) (aO mZ l)then(let b:=lU (decide (1<= minor)) (aO teN l) (aO clN l);if b.2.2=0 then ng (decide (1<= minor)) b.1 b.2.1 l else(eU,b.2.2))else(eU,400)from rfl)
 generalize hfr:yV (decide (1<= minor)) l=FR at*;clear hfr
 go_enter_defers Tryz.func344,Tryz.ntmps344
 go_wp2_with fail
 obtain⟨W,hW⟩: ∃W,W=((w.alloc (.cells (xX eU) 352)).alloc (.cells #[.int .i64 0] 3)):=⟨_,rfl⟩;rw[show(Obj.cells #[Value.int IntKind.i64 0,Value.int IntKind.i64 0,Value.bool false,Value.bool false] 352)= .cells (xX eU) 352 from rfl]
 rw[<- hW]at L0 B0 C0⊢;have hF0:=hF.ah L0;have hm0:=hm.below L0 (Nat.le_refl _);clear hW;generalize hfirst:decide (1<= minor)=first at*;clear hfirst;obtain⟨h,hh⟩: ∃h,h=w.heap.size:=⟨_,rfl⟩;refine(Ed p l ⟨mZ.toArray⟩ W hF0 hl hsz (by decide)).mono ?_
 rw[show(⟨mZ.toArray⟩:ByteArray).data.toList=mZ from rfl]
 rintro e w1 ⟨⟨A,c,rfl,h1,h2,h3⟩,L1⟩;go_upto_region 4 with(fail)
 go_cut [6,7]from 9 (fun s6 s7 wx=>s6= .bool first/\ s7= .slice A (aO mZ l).length c/\ wx=w1/\ ((aO mZ l= []/\ first=false)\/ (aO mZ l).length=1))
 case first=>
  have L2:=stepW L0 L1;have B1:=B0.ah L1;have C1:=C0.ah L1;rcases hv:aO mZ l with _| ⟨x,_| ⟨x2,r⟩⟩
  ·rw[hv]at HR hvl h1 h3
   cases first
   ·go_wp2_with fail
    refine(bV 400 w1).mono ?_;rintro e w3 ⟨rfl,rfl⟩;go_wp2
    go_meet
    case rel=>exact⟨rfl,by rw[hv];rfl,rfl,.inl ⟨hv,by trivial⟩⟩
   ·have HE:=Lib.hid (show FR=(eU,400)from HR.out)
    go_wp2_with fail
    refine(dH 400 w1).mono ?_;rintro e w3 ⟨rfl,rfl⟩;exact gK _ w w1 eU 0 400 FR rfl rfl B1 C1 L2 HE.out
  ·rw[hv]at HR hvl h1 h3
   go_wp2_with fail
   refine(bV 400 w1).mono ?_;rintro e w3 ⟨rfl,rfl⟩;go_wp2
   go_meet
   case rel=>exact⟨rfl,by rw[hv];rfl,rfl,.inr (by rw[hv];rfl)⟩
  ·rw[hv]at HR hvl h1 h3
   have HE:=Lib.hid (show FR=(eU,400)from HR.out)
   have hz: ¬((x::x2::r).length:Int)<= 1:=by simp;omega
   go_wp2_with fail
   refine(dH 400 w1).mono ?_;rintro e w3 ⟨rfl,rfl⟩;exact gK _ w w1 eU 0 400 FR rfl rfl B1 C1 L2 HE.out
 case rest=>
  obtain⟨rfl,rfl,rfl,hc⟩:=hcut;have L2:=stepW L0 L1;have B1:=B0.ah L1;have C1:=C0.ah L1;have hF1:=hF0.ah L1;have hm1:=hm.below L2 (Nat.le_refl _);clear B0 C0 hF0 hm0 L0 L1;go_upto_region 5 with(fail)
  go_cut [6,7]from 9 (fun s6 _ wx=>s6= .bool first/\ qE first (aO mZ l)=true/\ Below wc.heap.size wc wx)
  case first=>
   rcases hv:aO mZ l with _| ⟨x,_| ⟨x2,r⟩⟩
   ·rw[hv]at HR hvl h1 h3 hc hvz
    have hf:first=false:=by
     rcases hc with h|h
     ·exact h.2
     ·cases h
    subst hf;clear hc;go_wp2_with fail
    refine(bV 400 wc).mono ?_;rintro e w3 ⟨rfl,rfl⟩;go_wp2
    go_meet
    case rel=>exact⟨rfl,by rw[hv];rfl,Below.refl _ _⟩
   ·rw[hv]at HR hvl h1 h3 hc hvz
    clear hc;have hxz:=hvz x (by simp)
    obtain⟨b,o,rfl,hb,x0⟩:=h3.tx 0 x rfl;rw[Nat.add_zero]at x0;by_cases hx:x= []
    ·have hxe:(x:Bs).isEmpty=true:=by rw[hx];rfl
     have hok:qE first [x]=true:=by rw[qE,hx];rfl
     have Hok:=Lib.hid hok;clear hx hok;go_wp2_with fail
     refine(bV 400 wc).mono ?_;rintro e w3 ⟨rfl,rfl⟩;go_wp2
     go_meet
     case rel=>exact⟨rfl,by rw[hv];exact Hok.out,Below.refl _ _⟩
    ·have hxe:(x:Bs).isEmpty=false:=by rw[List.isEmpty_eq_false_iff];exact hx
     cases hH:tN x
     ·have HE:=Lib.hid (show FR=(eU,400) by rw[HR.out,qE,hH];simp[hx])
      clear hx;go_wp2_with fail
      refine(qB ⟨x.toArray⟩ wc (by show x.length<_;omega) hm1).mono ?_
      rw[show(⟨x.toArray⟩:ByteArray).data.toList=x from rfl,hH]
      rintro e w2 ⟨rfl,L3⟩;go_wp2_with fail
      refine(dH 400 w2).mono ?_;rintro e w3 ⟨rfl,rfl⟩;exact gK _ w w2 eU 0 400 FR rfl rfl (B1.ah L3) (C1.ah L3) (stepW L2 L3) HE.out
     ·have Hok:=Lib.hid (show qE first [x]=true by rw[qE,hH];simp)
      clear hx;go_wp2_with fail
      refine(qB ⟨x.toArray⟩ wc (by show x.length<_;omega) hm1).mono ?_
      rw[show(⟨x.toArray⟩:ByteArray).data.toList=x from rfl,hH]
      rintro e w2 ⟨rfl,L3⟩;go_wp2_with fail
      refine(bV 400 w2).mono ?_;rintro e w3 ⟨rfl,rfl⟩;go_wp2
      go_meet
      case rel=>exact⟨rfl,by rw[hv];exact Hok.out,L3⟩
   ·rw[hv]at hc
    exfalso;rcases hc with h|h
    ·cases h.1
    ·simp at h
  case rest=>
   obtain⟨rfl,hok,L3⟩:=hcut;have HS:=Lib.hid (show FR=(let b:=lU first (aO teN l) (aO clN l);if b.2.2=0 then ng first b.1 b.2.1 l else(eU,b.2.2)) by rw[HR.out,hok];rfl)
   have L4:=stepW L2 L3;have B2:=B1.ah L3;have C2:=C1.ah L3;have hF2:=hF1.ah L3;have hm2:=hm.below L4 (Nat.le_refl _);clear hok HR hvz hvl h1 h2 h3 hc L2 L3 B1 C1 hF1 hm1
   go_upto_block 0 with(fail)
   go_cut [6]from 9 (fun s6 wx=>s6= .bool first/\ ∃kind len:Int,Hid (FR=ng first kind len l)/\ Blk wx w.heap.size 352 (xX ⟨kind,len,false,false⟩)/\ Blk wx (w.heap.size+1) 3 #[.int .i64 0]/\ Below w.heap.size w wx)
   case first=>
    have hvzT:=qO teN l hsz;have hvzC:=qO clN l hsz;have hHT:=fun(w:World) (hF:FP w p l)=>LD p l ⟨teN.toArray⟩ w hF hl hsz (by decide)
    have hHC:=fun(w:World) (hF:FP w p l)=>LD p l ⟨clN.toArray⟩ w hF hl hsz (by decide)
    have hTT:=fun(w:World) (hF:FP w p l) (hm:ML w)=>uN p l ⟨teN.toArray⟩ w hF hl hsz (by decide) hm
    have hTC:=fun(w:World) (hF:FP w p l) (hm:ML w)=>uN p l ⟨clN.toArray⟩ w hF hl hsz (by decide) hm
    dsimp only at hHT hTT;dsimp only at hHC hTC;generalize aO teN l=te at*;generalize aO clN l=cl at*;go_wp2_with fail
    refine(hHT wc hF2).mono ?_;cases te with
    |cons t0 tr=>
     rintro e w1 ⟨rfl,L5⟩;have L6:=stepW L4 L5;rw[show(!(t0::tr).isEmpty)=true from rfl]
     cases first with
     |false=>
      have HE:=Lib.hid (show FR=(eU,400)from HS.out)
      go_wp2_with fail
      refine(dH 400 w1).mono ?_;rintro e w3 ⟨rfl,rfl⟩;exact gK _ w w1 eU 0 400 FR rfl rfl (B2.ah L5) (C2.ah L5) L6 HE.out
     |true=>
      go_wp2_with fail
      refine(hHC w1 (hF.ah L6)).mono ?_;rintro e w2 ⟨rfl,L7⟩;have L8:=stepW L6 L7;have B3:=(B2.ah L5).ah L7;have C3:=(C2.ah L5).ah L7;cases cl with
      |cons c0 cr=>
       have HE:=Lib.hid (show FR=(eU,400)from HS.out)
       rw[show(!(c0::cr).isEmpty)=true from rfl]
       go_wp2_with fail
       refine(dH 400 w2).mono ?_;rintro e w3 ⟨rfl,rfl⟩;exact gK _ w w2 eU 0 400 FR rfl rfl B3 C3 L8 HE.out
      |nil=>
       rw[show(!([]:List Bs).isEmpty)=false from rfl]
       go_wp2_with fail
       refine(bV 400 w2).mono ?_;rintro e w3 ⟨rfl,rfl⟩;go_wp2_with fail
       refine(hTT w2 (hF.ah L8) (hm.below L8 (Nat.le_refl _))).mono ?_;rintro e w3 ⟨hr,L9⟩;have L10:=stepW L8 L9;have B4:=B3.ah L9;have C4:=C3.ah L9;rcases hr with⟨ht,rfl⟩| ⟨t,A2,c2,ht,rfl,k1,k2,k3⟩
       ·have HE:=Lib.hid (show FR=(eU,400) by rw[HS.out];simp[lU,ZT,ht])
        exact gK _ w w3 eU 0 400 FR rfl rfl B4 C4 L10 HE.out
       ·have hb:lU true (t0::tr) []=(2,0,xK t):=by simp[lU,ZT,ht]
        have HB:=Lib.hid hb;clear hb ht;go_wp2_with fail
        refine(Qe A2 c2 _ t w3 k3 (by unfold maxLen at k2;omega)).mono ?_
        rintro e w4 ⟨hr,L11⟩;have L12:=stepW L10 L11;have B5:=B4.ah L11;have C5:=C4.ah L11;rcases hr with⟨hz,rfl⟩| ⟨hz,rfl⟩
        ·have HX:=Lib.hid (show FR=ng true 2 0 l by rw[HS.out,HB.out,hz];rfl)
         clear hz;obtain⟨j0,j1,j2,j3,i0,i1,i2,i3⟩:=B5.c4;go_wp2
         go_meet
         case rel=>exact⟨rfl,2,0,HX,B5.ay 0 (.int .i64 2),C5.far (p:=⟨w.heap.size,0,none⟩) (by simp) _,setW L12 (Nat.le_refl _) _⟩
        ·have HE:=Lib.hid (show FR=(eU,xK t) by rw[HS.out,HB.out];simp[hz])
         exact gK _ w w4 eU 0 (xK t) FR rfl rfl B5 C5 L12 HE.out
    |nil=>
     rintro e w1 ⟨rfl,L5⟩;have L6:=stepW L4 L5;rw[show(!([]:List Bs).isEmpty)=false from rfl]
     go_wp2_with fail
     refine(hHC w1 (hF.ah L6)).mono ?_;rintro e w2 ⟨rfl,L7⟩;have L8:=stepW L6 L7;have B3:=(B2.ah L5).ah L7;have C3:=(C2.ah L5).ah L7;cases cl with
     |nil=>
      have HX:=Lib.hid (show FR=ng first 0 0 l from HS.out)
      rw[show(!([]:List Bs).isEmpty)=false from rfl]
      go_wp2
      go_meet
      case rel=>exact⟨rfl,0,0,HX,B3,C3,L8⟩
     |cons c0 cr=>
      rw[show(!(c0::cr).isEmpty)=true from rfl]
      go_wp2_with fail
      refine(hTC w2 (hF.ah L8) (hm.below L8 (Nat.le_refl _))).mono ?_;rintro e w3 ⟨hr,L9⟩;have L10:=stepW L8 L9;have B4:=B3.ah L9;have C4:=C3.ah L9;rcases hr with⟨ht,rfl⟩| ⟨t,A2,c2,ht,rfl,k1,k2,k3⟩
      ·have HE:=Lib.hid (show FR=(eU,400) by rw[HS.out];simp[lU,KU,ht])
       exact gK _ w w3 eU 0 400 FR rfl rfl B4 C4 L10 HE.out
      ·have hb:lU first [] (c0::cr)=(1,(pR t).1,(pR t).2):=by simp[lU,KU,ht]
       have HB:=Lib.hid hb;have hts:=Yz _ t ht hvzC;clear hb ht;go_wp2_with fail
       refine(LH A2 c2 _ t w3 k3 (Nat.le_refl _) (by unfold maxLen at k2;omega) hts).mono ?_
       rintro e w4 ⟨hr,L11⟩;have L12:=stepW L10 L11;have B5:=B4.ah L11;have C5:=C4.ah L11;rcases hr with⟨hz,rfl⟩| ⟨hz,rfl⟩
       ·have HX:=Lib.hid (show FR=ng first 1 (pR t).1 l by rw[HS.out,HB.out,hz];rfl)
        clear hz;obtain⟨j0,j1,j2,j3,i0,i1,i2,i3⟩:=B5.c4;go_wp2
        go_meet
        case rel=>exact⟨rfl,1,(pR t).1,HX,(B5.ay 0 (.int .i64 1)).ay 1 _,(C5.far (p:=⟨w.heap.size,0,none⟩) (by simp) _).far (p:=⟨w.heap.size,1,none⟩) (by simp) _,setW (setW L12 (Nat.le_refl _) _) (Nat.le_refl _) _⟩
       ·have HE:=Lib.hid (show FR=(eU,(pR t).2) by rw[HS.out,HB.out];simp[hz])
        exact gK _ w w4 eU 0 (pR t).2 FR rfl rfl B5 C5 L12 HE.out
   case rest=>
    obtain⟨rfl,kind,len,HX,B3,C3,L5⟩:=hcut;clear HS L4 B2 C2 hF2 hm2;have hTO:=uN p l ⟨coN.toArray⟩ wc (hF.ah L5) hl hsz (by decide) (hm.below L5 (Nat.le_refl _))
    rw[show(⟨coN.toArray⟩:ByteArray).data.toList=coN from rfl]at hTO
    go_wp2_with fail
    refine hTO.mono ?_;clear hTO;rintro e w1 ⟨hr,L6⟩;have L7:=stepW L5 L6;have B4:=B3.ah L6;have C4:=C3.ah L6;clear B3 C3;rcases hr with⟨ht,rfl⟩| ⟨t,A2,c2,ht,rfl,k1,k2,k3⟩
    ·have HE:=Lib.hid (show FR=(eU,400) by rw[HX.out,ng,ht])
     exact gK _ w w1 _ 0 400 FR rfl rfl B4 C4 L7 HE.out
    ·have HY:=Lib.hid (show FR=if first&& !(aO exN l).isEmpty then(if dY (kT (aO exN l))=vN then(⟨kind,len,t.contains mD|| (!first&& !t.contains uf),decide (kind=2)||decide (0<len)⟩,0)else(eU,417))else(⟨kind,len,t.contains mD|| (!first&& !t.contains uf),false⟩,0) by rw[HX.out,ng,ht])
     clear HX ht L5 L6;have hcc:=wu A2 c2 _ t ⟨mD.toArray⟩ w1 k3 (by unfold maxLen at k2;omega)
     have hck:=wu A2 c2 _ t ⟨uf.toArray⟩ w1 k3 (by unfold maxLen at k2;omega)
     rw[show(⟨mD.toArray⟩:ByteArray).data.toList=mD from rfl]at hcc
     rw[show(⟨uf.toArray⟩:ByteArray).data.toList=uf from rfl]at hck
     generalize hb1:t.contains mD=b1 at*;generalize hb2:t.contains uf=b2 at*;clear hb1 hb2;go_upto_region 13 with(fail)
     go_cut [6]from 9 (fun s6 wx=>s6= .bool first/\ Blk wx w.heap.size 352 (xX ⟨kind,len,b1|| (!first&& !b2),false⟩)/\ Blk wx (w.heap.size+1) 3 #[.int .i64 0]/\ Below w.heap.size w wx)
     case first=>
      obtain⟨j0,j1,j2,j3,i0,i1,i2,i3⟩:=B4.c4;cases b1
      ·cases first
       ·cases b2
        all_goals
         go_wp2_with fail
         refine hcc.mono ?_;rintro e w2 ⟨rfl,rfl⟩;go_wp2_with fail
         refine hck.mono ?_;rintro e w2 ⟨rfl,rfl⟩;go_wp2
         go_meet
         case rel=>exact⟨rfl,B4.ay 2 _,C4.far (p:=⟨w.heap.size,2,none⟩) (by simp) _,setW L7 (Nat.le_refl _) _⟩
       ·go_wp2_with fail
        refine hcc.mono ?_;rintro e w2 ⟨rfl,rfl⟩;go_wp2
        go_meet
        case rel=>exact⟨rfl,B4.ay 2 _,C4.far (p:=⟨w.heap.size,2,none⟩) (by simp) _,setW L7 (Nat.le_refl _) _⟩
      ·go_wp2_with fail
       refine hcc.mono ?_;rintro e w2 ⟨rfl,rfl⟩;go_wp2
       go_meet
       case rel=>exact⟨rfl,B4.ay 2 _,C4.far (p:=⟨w.heap.size,2,none⟩) (by simp) _,setW L7 (Nat.le_refl _) _⟩
     case rest=>
      obtain⟨rfl,B5,C5,L8⟩:=hcut;clear hcc hck k1 k2 k3 B4 C4 L7;generalize (b1|| (!first&& !b2))=cl at*
      cases first with
      |false=>
       have HE:=Lib.hid (show FR=(⟨kind,len,cl,false⟩,0) by rw[HY.out];rfl)
       obtain⟨j0,j1,j2,j3,i0,i1,i2,i3⟩:=B5.c4;obtain⟨q0,q1⟩:=C5.c1;go_wp2
       refine wz _ w _ ⟨kind,len,cl,false⟩ 0 FR rfl rfl ?_ ?_ ?_ HE.out
       ·exact((((B5.ay 0 _).ay 1 _).ay 2 _).ay 3 _).far (p:=⟨w.heap.size+1,0,none⟩) (by simp) _
       ·exact((((C5.far (p:=⟨w.heap.size,0,none⟩) (by simp) _).far (p:=⟨w.heap.size,1,none⟩) (by simp) _).far (p:=⟨w.heap.size,2,none⟩) (by simp) _).far (p:=⟨w.heap.size,3,none⟩) (by simp) _).ay 0 _
       ·exact setW (setW (setW (setW (setW L8 (Nat.le_refl _) _) (Nat.le_refl _) _) (Nat.le_refl _) _) (Nat.le_refl _) _) (Nat.le_succ _) _
      |true=>
       have hHE:=LD p l ⟨exN.toArray⟩ wc (hF.ah L8) hl hsz (by decide)
       rw[show(⟨exN.toArray⟩:ByteArray).data.toList=exN from rfl]at hHE
       have hvzE:=qO exN l hsz;have hvlE:=mX exN l;go_wp2_with fail
       refine hHE.mono ?_;rintro e w2 ⟨rfl,L9⟩;have L10:=stepW L8 L9;have B6:=B5.ah L9;have C6:=C5.ah L9;clear B5 C5;cases hE:(aO exN l).isEmpty
       ·have hjl:=xQ 1000000 (aO exN l) (fun v hv=>hvzE v hv)
        have hj2:(aO exN l).length*(1000000+2)<= 24*(1000000+2):=Nat.mul_le_mul_right _ (by omega)
        have hGE:=fun(w:World) (hF:FP w p l)=>aal p l ⟨exN.toArray⟩ w hF hl hsz (by decide)
        dsimp only at hGE;have hY2:FR=if dY (kT (aO exN l))=vN then(⟨kind,len,cl,decide (kind=2)||decide (0<len)⟩,0)else(eU,417):=by rw[HY.out,hE];rfl
        clear HY hE hHE hvzE hvlE;generalize kT (aO exN l)=J at*;have HY2:=Lib.hid hY2;clear hY2;go_wp2_with fail
        refine(hGE w2 (hF.ah L10)).mono ?_;rintro e w3 ⟨rfl,L11⟩;have L12:=stepW L10 L11;have B7:=B6.ah L11;have C7:=C6.ah L11;go_wp2_with fail
        refine(pY ⟨J.toArray⟩ ⟨vN.toArray⟩ w3 (by show J.length<= _;unfold maxLen;omega) (by decide)).mono ?_
        rw[show(⟨J.toArray⟩:ByteArray).data.toList=J from rfl,show(⟨vN.toArray⟩:ByteArray).data.toList=vN from rfl,UZ]
        rintro e w4 ⟨rfl,L13⟩;have L14:=stepW L12 L13;have B8:=B7.ah L13;have C8:=C7.ah L13;clear B6 C6 B7 C7 L9 L10 L11 L12 L13;cases hS:(dY J==vN)
        ·have HE:=Lib.hid (show FR=(eU,417) by rw[HY2.out,if_neg];simpa using hS)
         go_wp2_with fail
         refine(dH 417 w4).mono ?_;rintro e w5 ⟨rfl,rfl⟩;exact gK _ w w4 _ 0 417 FR rfl rfl B8 C8 L14 HE.out
        ·have HE:=Lib.hid (show FR=(⟨kind,len,cl,decide (kind=2)||decide (0<len)⟩,0) by rw[HY2.out,if_pos];simpa using hS)
         obtain⟨j0,j1,j2,j3,i0,i1,i2,i3⟩:=B8.c4;obtain⟨q0,q1⟩:=C8.c1;clear hS HY2;by_cases hk:kind=2
         ·have hkb:(kind==2)=true:=by rw[hk];rfl
          have HE2:=Lib.hid (show FR=(⟨kind,len,cl,true⟩,0) by rw[HE.out,hk];rfl)
          clear hk;go_wp2_with fail
          refine(bV 417 w4).mono ?_;rintro e w5 ⟨rfl,rfl⟩;go_wp2
          refine wz _ w _ ⟨kind,len,cl,true⟩ 0 FR rfl rfl ?_ ?_ ?_ HE2.out
          ·exact(((((B8.ay 3 _).ay 0 _).ay 1 _).ay 2 _).ay 3 _).far (p:=⟨w.heap.size+1,0,none⟩) (by simp) _
          ·exact(((((C8.far (p:=⟨w.heap.size,3,none⟩) (by simp) _).far (p:=⟨w.heap.size,0,none⟩) (by simp) _).far (p:=⟨w.heap.size,1,none⟩) (by simp) _).far (p:=⟨w.heap.size,2,none⟩) (by simp) _).far (p:=⟨w.heap.size,3,none⟩) (by simp) _).ay 0 _
          ·exact setW (setW (setW (setW (setW (setW L14 (Nat.le_refl _) _) (Nat.le_refl _) _) (Nat.le_refl _) _) (Nat.le_refl _) _) (Nat.le_refl _) _) (Nat.le_succ _) _
         ·have hkb:(kind==2)=false:=by rw[Bool.eq_false_iff];intro h;exact hk (beq_iff_eq.1 h)
          have HE2:=Lib.hid (show FR=(⟨kind,len,cl,decide (0<len)⟩,0) by rw[HE.out,decide_eq_false hk];rfl)
          clear hk;go_wp2_with fail
          refine(bV 417 w4).mono ?_;rintro e w5 ⟨rfl,rfl⟩;go_wp2
          refine wz _ w _ ⟨kind,len,cl,decide (0<len)⟩ 0 FR rfl rfl ?_ ?_ ?_ HE2.out
          ·exact(((((B8.ay 3 _).ay 0 _).ay 1 _).ay 2 _).ay 3 _).far (p:=⟨w.heap.size+1,0,none⟩) (by simp) _
          ·exact(((((C8.far (p:=⟨w.heap.size,3,none⟩) (by simp) _).far (p:=⟨w.heap.size,0,none⟩) (by simp) _).far (p:=⟨w.heap.size,1,none⟩) (by simp) _).far (p:=⟨w.heap.size,2,none⟩) (by simp) _).far (p:=⟨w.heap.size,3,none⟩) (by simp) _).ay 0 _
          ·exact setW (setW (setW (setW (setW (setW L14 (Nat.le_refl _) _) (Nat.le_refl _) _) (Nat.le_refl _) _) (Nat.le_refl _) _) (Nat.le_refl _) _) (Nat.le_succ _) _
       ·have HE:=Lib.hid (show FR=(⟨kind,len,cl,false⟩,0) by rw[HY.out,hE];rfl)
        obtain⟨j0,j1,j2,j3,i0,i1,i2,i3⟩:=B6.c4;obtain⟨q0,q1⟩:=C6.c1;go_wp2
        refine wz _ w _ ⟨kind,len,cl,false⟩ 0 FR rfl rfl ?_ ?_ ?_ HE.out
        ·exact((((B6.ay 0 _).ay 1 _).ay 2 _).ay 3 _).far (p:=⟨w.heap.size+1,0,none⟩) (by simp) _
        ·exact((((C6.far (p:=⟨w.heap.size,0,none⟩) (by simp) _).far (p:=⟨w.heap.size,1,none⟩) (by simp) _).far (p:=⟨w.heap.size,2,none⟩) (by simp) _).far (p:=⟨w.heap.size,3,none⟩) (by simp) _).ay 0 _
        ·exact setW (setW (setW (setW (setW L10 (Nat.le_refl _) _) (Nat.le_refl _) _) (Nat.le_refl _) _) (Nat.le_refl _) _) (Nat.le_succ _) _
def oV (w:World) (g:Nat) (S:Nat-> Prop) (r:HS) (e:Ending) (w':World):Prop:=
 e= .returned (.tuple #[.bool r.whole,.int .i64 r.status])/\ ∃S',HR w' g S' r/\ Moved S S' w w'
theorem Jq (g:Nat) (S:Nat-> Prop) (h:HS) (s:ByteArray) (w:World) (k:HR w g S h) (ho:h.on=false):
 Calls Tryz.prog 331 #[.pointer (some ⟨g,0,none⟩),.string s] w (oV w g S h):=by
 obtain⟨pf,v,hS,kk⟩:=id k;have hb:=kk.blk;unfold bn at hb;obtain⟨⟨j0,j1,j2,j3,j4,j5,j6,j7,j8,j9,j10,j11,j12,j13,j14,j15⟩,i0,i1,i2,i3,i4,i5,i6,i7,i8,i9,i10,i11,i12,i13,i14,i15⟩:=Blk.c16 hb;clear hb kk i0 i1 i2 i3 i4 i5 i6 i7 i8 i9 i10 i11 i12 i13 i14 i15 j0 j1 j2 j3 j4 j5 j6 j7 j8 j9 j10 j11 j12 j13;rcases h.DZ ho with hw| ⟨hw,hst⟩
 ·rw[hw]at j14
  go_enter Tryz.func331,Tryz.ntmps331
  go_wp2
  go_quiet (fail)
  go_wp2
  go_ret2
  exact⟨by rw[hw];rfl,S,k.ah (below_drewN' (Below.refl _ _) _),(Moved.refl _ _).drewN _⟩
 ·rw[hw]at j14
  have hst2:(h.status != 0)=true:=by rw[bne_iff_ne];exact hst
  go_enter Tryz.func331,Tryz.ntmps331
  go_wp2
  go_quiet (fail)
  go_wp2
  go_ret2
  exact⟨by rw[hw];rfl,S,k.ah (below_drewN' (Below.refl _ _) _),(Moved.refl _ _).drewN _⟩
def hS (g pf:Nat) (v:Value):Nat-> Prop:=fun i=>i=g\/ FS pf v i
structure HW (w0:World) (S:Nat-> Prop) (w:World) (g pf:Nat) (v:Value) (h:HS):Prop where
 k:HK w g pf v h
 m:Moved S (hS g pf v) w0 w
namespace HW
variable {w0 w w':World} {S:Nat-> Prop} {g pf:Nat} {v:Value} {h:HS}
theorem refl (k:HK w g pf v h):HW w (hS g pf v) w g pf v h:=⟨k,Moved.refl _ _⟩
theorem ay (q:HW w0 S w g pf v h) {h':HS} (i:Nat) (u:Value) (hc:(bn h pf).setIfInBounds i u=bn h' pf) (hf:h'.bJ=h.bJ):HW w0 S (w.setCell ⟨g,i,none⟩ u) g pf v h':=by
 have hfr:Fr (fun k=>k=g) w (w.setCell ⟨g,i,none⟩ u):=Fr.setCell (S:=fun k=>k=g) (Fr.refl _ w) (p:=⟨g,i,none⟩) (.inl rfl) u
 refine⟨⟨by rw[<- hc];exact q.k.blk.ay i u,by rw[hf];exact q.k.fa.fr hfr (fun e=>q.k.ne e.symm) (fun j hj e=>q.k.no (by rw[hj,e])),q.k.ne,q.k.no⟩,?_⟩
 have h1:Moved (hS g pf v) (hS g pf v) w (w.setCell ⟨g,i,none⟩ u):=(Moved.refl _ _).ay (.inl rfl) u;exact q.m.trans h1
theorem ah (q:HW w0 S w g pf v h) (hb:Below w.heap.size w w'):HW w0 S w' g pf v h:=⟨q.k.ah hb,q.m.ah hb⟩
theorem drewN (q:HW w0 S w g pf v h) (n:Nat):HW w0 S (w.drewN n) g pf v h:=q.ah (below_drewN' (Below.refl _ _) n)
theorem bytes (q:HW w0 S w g pf v h) {n:Int} {m:Nat} (hn:n=(m:Int)):HW w0 S (w.setCell ⟨g,9,none⟩ (.int .i64 n)) g pf v { h with bytes:=m } :=
 q.ay 9 _ (by subst hn;simp[bn]) rfl
theorem empty (q:HW w0 S w g pf v h) {n:Int} {m:Nat} (hn:n=(m:Int)):HW w0 S (w.setCell ⟨g,8,none⟩ (.int .i64 n)) g pf v { h with empty:=m } :=
 q.ay 8 _ (by subst hn;simp[bn]) rfl
theorem status (q:HW w0 S w g pf v h) (n:Int):HW w0 S (w.setCell ⟨g,15,none⟩ (.int .i64 n)) g pf v { h with status:=n } :=
 q.ay 15 _ (by simp[bn]) rfl
theorem whole (q:HW w0 S w g pf v h) (b:Bool):HW w0 S (w.setCell ⟨g,14,none⟩ (.bool b)) g pf v { h with whole:=b } :=
 q.ay 14 _ (by simp[bn]) rfl
theorem ends (q:HW w0 S w g pf v h) {b:Bool} {n:Int} (hb:h.whole=b) (hn:h.status=n):w.cell? ⟨g,14,none⟩=some (.bool b)/\ w.cell? ⟨g,15,none⟩=some (.int .i64 n):=
 ⟨by rw[<- hb];exact q.k.blk.cell 14,by rw[<- hn];exact q.k.blk.cell 15⟩
theorem hr (q:HW w0 S w g pf v h):HR w g (hS g pf v) h:=⟨pf,v,rfl,q.k⟩
end HW
theorem hlp {w0 w:World} {S:Nat-> Prop} {g pf:Nat} {v:Value} {h r:HS} {b:Bool} {n:Int} (q:HW w0 S w g pf v h) (hr:h=r) (hb:b=h.whole) (hn:n=h.status):oV w0 g S r (.returned (.tuple #[.bool b,.int .i64 n])) w:=by
 subst hr hb hn;exact⟨rfl,_,q.hr,q.m⟩
theorem GH (g pf:Nat) (v:Value) (h:HS) (s:ByteArray) (w:World) (k:HK w g pf v h) (hi:AL h) (ho:h.on=true) (hz:s.size<= 1000000) (hc:256<s.size\/ 1024<hB h s.data.toList):
 Calls Tryz.prog 331 #[.pointer (some ⟨g,0,none⟩),.string s] w (oV w g (hS g pf v) (jP h s.data.toList)):=by
 obtain⟨h1,h2⟩:=h.eY ho;have hE:=lq h s.data.toList ho;rw[if_pos (by rw[au];exact hc)]at hE
 have HE:=Lib.hid hE;clear hE ho;obtain⟨b,hbb⟩: ∃b,b=hB h s.data.toList:=⟨_,rfl⟩;have hbe:b=h.bytes+min s.size 257+2:=by rw[hbb];unfold hB;rw[au]
 rw[<- hbb]at HE hc;clear hbb;have q:=HW.refl k;have hb:=k.blk;unfold bn at hb;obtain⟨⟨j0,j1,j2,j3,j4,j5,j6,j7,j8,j9,j10,j11,j12,j13,j14,j15⟩,i0,i1,i2,i3,i4,i5,i6,i7,i8,i9,i10,i11,i12,i13,i14,i15⟩:=Blk.c16 hb;have hbn:=hi.bytes;have h1':=h1;have h2':=h2;rw[h1]at j14;rw[h2]at j15;clear hb k hi j0 j1 j2 j3 j4 j5 j6 j8 j10 j11 j12 j13 i0 i1 i2 i3 i4 i5 i6 i7 i8 i10 i11 i12 i13 h1 h2;have H1:=Lib.hid h1';have H2:=Lib.hid h2';clear h1' h2';by_cases h256:256<s.size
 ·have hmin:min (s.size:Int) 257=257:=by omega
  obtain⟨bg,hbg⟩: ∃bg,bg=h.begun:=⟨_,rfl⟩;have HBg:=Lib.hid hbg;rw[<- hbg]at HE j7;clear hbg;cases bg
  ·go_enter Tryz.func331,Tryz.ntmps331
   go_wp2
   have q':=(q.bytes (n:=(h.bytes:Int)+259) (m:=b) (by omega)).status 414
   obtain⟨V,hV,q9⟩: ∃V,V=_/\ HW w (hS g pf v) V g pf v _:=⟨_,rfl,q'⟩;rw[<- hV];clear hV q' q;obtain⟨c14,c15⟩:=q9.ends (b:=false) (n:=414) H1.out rfl;go_quiet (fail)
   go_wp2
   go_ret2
   exact hlp (q9.drewN _) (by rw[HE.out,<- HBg.out]<;>rfl) H1.out.symm rfl
  ·go_enter Tryz.func331,Tryz.ntmps331
   go_wp2
   have q':=((q.bytes (n:=(h.bytes:Int)+259) (m:=b) (by omega)).status 414).status 431
   obtain⟨V,hV,q9⟩: ∃V,V=_/\ HW w (hS g pf v) V g pf v _:=⟨_,rfl,q'⟩;rw[<- hV];clear hV q' q;obtain⟨c14,c15⟩:=q9.ends (b:=false) (n:=431) H1.out rfl;go_quiet (fail)
   go_wp2
   go_ret2
   exact hlp (q9.drewN _) (by rw[HE.out,<- HBg.out]<;>rfl) H1.out.symm rfl
 ·have hmin:min (s.size:Int) 257=s.size:=by omega
  obtain⟨bg,hbg⟩: ∃bg,bg=h.begun:=⟨_,rfl⟩;have HBg:=Lib.hid hbg;rw[<- hbg]at HE j7;clear hbg;cases bg
  ·go_enter Tryz.func331,Tryz.ntmps331
   go_wp2
   have q':=(q.bytes (n:=(h.bytes:Int)+((s.size:Int)+2)) (m:=b) (by omega)).status 414
   obtain⟨V,hV,q9⟩: ∃V,V=_/\ HW w (hS g pf v) V g pf v _:=⟨_,rfl,q'⟩;rw[<- hV];clear hV q' q;obtain⟨c14,c15⟩:=q9.ends (b:=false) (n:=414) H1.out rfl;go_quiet (fail)
   go_wp2
   go_ret2
   exact hlp (q9.drewN _) (by rw[HE.out,<- HBg.out]<;>rfl) H1.out.symm rfl
  ·go_enter Tryz.func331,Tryz.ntmps331
   go_wp2
   have q':=((q.bytes (n:=(h.bytes:Int)+((s.size:Int)+2)) (m:=b) (by omega)).status 414).status 431
   obtain⟨V,hV,q9⟩: ∃V,V=_/\ HW w (hS g pf v) V g pf v _:=⟨_,rfl,q'⟩;rw[<- hV];clear hV q' q;obtain⟨c14,c15⟩:=q9.ends (b:=false) (n:=431) H1.out rfl;go_quiet (fail)
   go_wp2
   go_ret2
   exact hlp (q9.drewN _) (by rw[HE.out,<- HBg.out]<;>rfl) H1.out.symm rfl
theorem HW.blk {w0 w w':World} {S:Nat-> Prop} {g pf:Nat} {v:Value} {h h':HS} (q:HW w0 S w g pf v h) (hb:Blk w' g 356 (bn h' pf)) (hf:Fr (fun k=>k=g) w w') (hl:h'.bJ=h.bJ):HW w0 S w' g pf v h':=by
 refine⟨⟨hb,by rw[hl];exact q.k.fa.fr hf (fun e=>q.k.ne e.symm) (fun j hj e=>q.k.no (by rw[hj,e])),q.k.ne,q.k.no⟩,?_⟩
 have h1:Moved (hS g pf v) (hS g pf v) w w':=⟨hf.mono fun i hi=>.inl (.inl hi),fun _ hi=>.inl hi⟩
 exact q.m.trans h1
theorem Dt (g pf:Nat) (v:Value) (h:HS) (s:ByteArray) (w:World) (k:HK w g pf v h) (hi:AL h) (ho:h.on=true) (hs:s.size=0) (hg:h.begun=false) (hc: ¬(256<s.size\/ 1024<hB h s.data.toList)):
 Calls Tryz.prog 331 #[.pointer (some ⟨g,0,none⟩),.string s] w (oV w g (hS g pf v) (jP h s.data.toList)):=by
 obtain rfl:s=⟨#[]⟩:=fQ (List.eq_nil_of_length_eq_zero (by rw[au];exact hs))
 obtain⟨h1,h2⟩:=h.eY ho;have hE:=lq h [] ho;rw[if_neg (by exact hc)]at hE
 have HO:=Lib.hid (hi.on h1 h2);clear ho;obtain⟨b,hbb⟩: ∃b,b=hB h []:=⟨_,rfl⟩;have hbe:b=h.bytes+min 0 257+2:=by rw[hbb];unfold hB;rfl
 rw[<- hbb]at hE hc;clear hbb;have q:=HW.refl k;have hb:=k.blk;unfold bn at hb;obtain⟨⟨j0,j1,j2,j3,j4,j5,j6,j7,j8,j9,j10,j11,j12,j13,j14,j15⟩,i0,i1,i2,i3,i4,i5,i6,i7,i8,i9,i10,i11,i12,i13,i14,i15⟩:=Blk.c16 hb;have hbn:=hi.bytes;have hemp:=hi.empty;rw[h1]at j14;rw[h2]at j15;have H1:=Lib.hid h1;have H2:=Lib.hid h2;clear h1 h2;rw[if_pos hg,if_pos rfl]at hE;have HE:=Lib.hid hE;rw[hg]at j7;clear hE hb k hi hg j0 j1 j2 j3 j4 j5 j6 j10 j11 j12 j13 i0 i1 i2 i3 i4 i5 i6 i7 i10 i11 i12 i13;have hbe2:b=h.bytes+2:=by rw[hbe];rfl
 have hmin0:min (0:Int) 257=0:=rfl;have hb10: ¬1024<b:=fun h0=>hc (.inr h0)
 clear hbe hc;by_cases h4:4<h.empty+1
 ·go_enter Tryz.func331,Tryz.ntmps331
  go_wp2
  have q':=((q.bytes (n:=(h.bytes:Int)+2) (m:=b) (by omega)).empty (n:=(h.empty:Int)+1) (m:=h.empty+1) (by omega)).status 400
  obtain⟨V,hV,q9⟩: ∃V,V=_/\ HW w (hS g pf v) V g pf v _:=⟨_,rfl,q'⟩;rw[<- hV];clear hV q' q;obtain⟨c14,c15⟩:=q9.ends (b:=false) (n:=400) H1.out rfl;go_quiet (fail)
  go_wp2
  go_ret2
  exact hlp (q9.drewN _) (by rw[HE.out,if_pos h4]) H1.out.symm rfl
 ·go_enter Tryz.func331,Tryz.ntmps331
  go_wp2
  have q':=((q.bytes (n:=(h.bytes:Int)+2) (m:=b) (by omega)).empty (n:=(h.empty:Int)+1) (m:=h.empty+1) (by omega))
  obtain⟨V,hV,q9⟩: ∃V,V=_/\ HW w (hS g pf v) V g pf v _:=⟨_,rfl,q'⟩;rw[<- hV];clear hV q' q;obtain⟨c14,c15⟩:=q9.ends (b:=false) (n:=0) H1.out H2.out;go_quiet (fail)
  go_wp2
  go_ret2
  exact hlp (q9.drewN _) (by rw[HE.out,if_neg h4,H2.out]) H1.out.symm H2.out.symm
theorem Du (g pf:Nat) (v:Value) (h:HS) (s:ByteArray) (w:World) (k:HK w g pf v h) (hi:AL h) (ho:h.on=true) (hs:0<s.size) (hg:h.begun=false) (hc: ¬(256<s.size\/ 1024<hB h s.data.toList)) (hm:ML w) (hh:Hi (hS g pf v)):
 Calls Tryz.prog 331 #[.pointer (some ⟨g,0,none⟩),.string s] w (oV w g (hS g pf v) (jP h s.data.toList)):=by
 have hsn:s.data.toList≠[]:=fun h0=>by have:=au s;rw[h0]at this;simp at this;omega
 have hse:s.toList.isEmpty=false:=by rw[ByteArray.toList_eq];simpa using hsn
 obtain⟨h1,h2⟩:=h.eY ho;have hE:=lq h s.data.toList ho;rw[if_neg (by rw[au];exact hc)]at hE
 have HO:=Lib.hid (hi.on h1 h2);clear ho;obtain⟨b,hbb⟩: ∃b,b=hB h s.data.toList:=⟨_,rfl⟩;have hbe:b=h.bytes+min s.size 257+2:=by rw[hbb];unfold hB;rw[au]
 rw[<- hbb]at hE hc;clear hbb;have q:=HW.refl k;have hb:=k.blk;unfold bn at hb;obtain⟨⟨j0,j1,j2,j3,j4,j5,j6,j7,j8,j9,j10,j11,j12,j13,j14,j15⟩,i0,i1,i2,i3,i4,i5,i6,i7,i8,i9,i10,i11,i12,i13,i14,i15⟩:=Blk.c16 hb;have hbn:=hi.bytes;have hemp:=hi.empty;rw[h1]at j14;rw[h2]at j15;have H1:=Lib.hid h1;have H2:=Lib.hid h2;clear h1 h2;rw[if_pos hg,if_neg hsn]at hE;have HE:=Lib.hid hE;rw[hg]at j7;clear hE hb k hi hsn j0 j1 j2 j3 j4 j5 j6 j10 j11 j12 j13 i0 i1 i2 i3 i4 i5 i6 i7 i10 i11 i12 i13;have h256: ¬256<s.size:=fun h0=>hc (.inl h0)
 have hb10: ¬1024<b:=fun h0=>hc (.inr h0)
 have hmin:min (s.size:Int) 257=s.size:=by omega
 have hbe2:b=h.bytes+(s.size+2):=by omega
 have HG:=Lib.hid hg;clear hbe hc hg;go_enter Tryz.func331,Tryz.ntmps331
 go_wp2_with fail
 have q':=q.bytes (n:=(h.bytes:Int)+((s.size:Int)+2)) (m:=b) (by omega)
 obtain⟨V,hV,q9⟩: ∃V,V=_/\ HW w (hS g pf v) V g pf v _:=⟨_,rfl,q'⟩;have hmV:ML V:=hm.fr q9.m.fr hh;rw[<- hV];clear hV q' q j7 j8 j9 j14 j15 i8 i9 i14 i15;refine(PI g pf _ s V q9.k.blk (by omega) hmV).mono ?_
 rintro e w2 ⟨rfl,hB2,hF2⟩;have f15:=hB2.frozen 15;have d14:w2.cell? ⟨g,14,none⟩=some (.bool (stH _ s.data.toList).whole):=hB2.cell 14;have d15:w2.cell? ⟨g,15,none⟩=some (.int .i64 (stH _ s.data.toList).status):=hB2.cell 15;obtain⟨n,hn⟩: ∃n,n=(aU s.data.toList).1:=⟨_,rfl⟩;rw[<- hn];by_cases h0:n=0
 ·rw[Yk _ _ (by rw[<- hn];exact h0)]at hB2 d14 d15
  have q3:=q9.blk hB2 hF2 rfl;have q4:=q3.status n;rw[<- hn,if_pos h0]at HE;subst h0;clear hn;go_wp2
  obtain⟨V3,hV3,q5⟩: ∃V3,V3=_/\ HW w (hS g pf v) V3 g pf v _:=⟨_,rfl,q4⟩;rw[<- hV3];clear hV3 q4 q3 d14 d15 f15;obtain⟨c14,c15⟩:=q5.ends (b:=false) (n:=0) H1.out rfl;go_quiet (fail)
  go_wp2
  go_ret2
  exact hlp (q5.drewN _) (by rw[HE.out,H2.out]) H1.out.symm rfl
 ·rw[Z8 _ _ (by rw[<- hn];exact h0)]at hB2 d14 d15
  have q3:=q9.blk hB2 hF2 rfl;have q4:=q3.status n;rw[<- hn,if_neg h0]at HE;clear hn h0;go_wp2
  obtain⟨V3,hV3,q5⟩: ∃V3,V3=_/\ HW w (hS g pf v) V3 g pf v _:=⟨_,rfl,q4⟩;rw[<- hV3];clear hV3 q4 q3 d14 d15 f15;obtain⟨c14,c15⟩:=q5.ends (b:=false) (n:=n) H1.out rfl;go_quiet (fail)
  go_wp2
  go_ret2
  exact hlp (q5.drewN _) (by rw[HE.out]) H1.out.symm rfl
theorem HW.adds {w0 w w':World} {S:Nat-> Prop} {g pf:Nat} {v v':Value} {h:HS} {l:List Fd} (q:HW w0 S w g pf v h) (hk:HK w' g pf v' { h with bJ:=l }) (hv: ∀k,v'.ownBlock=some k-> v.ownBlock=some k\/ w.heap.size<= k) (hf:Fr (FS pf v) w w'):HW w0 S w' g pf v' { h with bJ:=l } :=by
 refine⟨hk,q.m.trans ⟨hf.mono fun i hi=>.inl (.inr hi),fun i hi=> ?_⟩⟩
 rcases hi with h1|h1|h1
 ·exact .inl (.inl h1)
 ·exact .inl (.inr (.inl h1))
 ·rcases hv i h1 with h2|h2
  ·exact .inl (.inr (.inr h2))
  ·exact .inr h2
theorem Dv (g pf:Nat) (v:Value) (h:HS) (s:ByteArray) (w:World) (k:HK w g pf v h) (hi:AL h) (ho:h.on=true) (hs:0<s.size) (hg:h.begun=true) (hc: ¬(256<s.size\/ 1024<hB h s.data.toList)) (hm:ML w) (hh:Hi (hS g pf v)):
 Calls Tryz.prog 331 #[.pointer (some ⟨g,0,none⟩),.string s] w (oV w g (hS g pf v) (jP h s.data.toList)):=by
 have hsn:s.data.toList≠[]:=fun h0=>by have:=au s;rw[h0]at this;simp at this;omega
 have hse:s.toList.isEmpty=false:=by rw[ByteArray.toList_eq];simpa using hsn
 obtain⟨h1,h2⟩:=h.eY ho;have hE:=lq h s.data.toList ho;rw[if_neg (by rw[au];exact hc)]at hE
 have HO:=Lib.hid (hi.on h1 h2);clear ho;obtain⟨b,hbb⟩: ∃b,b=hB h s.data.toList:=⟨_,rfl⟩;have hbe:b=h.bytes+min s.size 257+2:=by rw[hbb];unfold hB;rw[au]
 rw[<- hbb]at hE hc;clear hbb;have q:=HW.refl k;have hb:=k.blk;unfold bn at hb;obtain⟨⟨j0,j1,j2,j3,j4,j5,j6,j7,j8,j9,j10,j11,j12,j13,j14,j15⟩,i0,i1,i2,i3,i4,i5,i6,i7,i8,i9,i10,i11,i12,i13,i14,i15⟩:=Blk.c16 hb;have hbn:=hi.bytes;have hemp:=hi.empty;rw[h1]at j14;rw[h2]at j15;have H1:=Lib.hid h1;have H2:=Lib.hid h2;clear h1 h2;rw[if_neg (by rw[hg];decide),if_neg hsn]at hE
 have HE:=Lib.hid hE;rw[hg]at j7;have hlen:=hi.len;clear hE hb k hi hsn j0 j1 j2 j3 j4 j5 j6 j10 j11 j12 j13 i0 i1 i2 i3 i4 i5 i6 i7 i10 i11 i12 i13;have h256: ¬256<s.size:=fun h0=>hc (.inl h0)
 have hb10: ¬1024<b:=fun h0=>hc (.inr h0)
 have hmin:min (s.size:Int) 257=s.size:=by omega
 have hbe2:b=h.bytes+(s.size+2):=by omega
 clear hbe hc hg;go_enter Tryz.func331,Tryz.ntmps331
 go_wp2_with fail
 have q':=q.bytes (n:=(h.bytes:Int)+((s.size:Int)+2)) (m:=b) (by omega)
 obtain⟨V,hV,q9⟩: ∃V,V=_/\ HW w (hS g pf v) V g pf v _:=⟨_,rfl,q'⟩;have hmV:ML V:=hm.fr q9.m.fr hh;rw[<- hV];clear hV q' q j7 j8 j9 j14 j15 i8 i9 i14 i15;obtain⟨r,hr⟩: ∃r,r=adL h.bJ s.data.toList:=⟨_,rfl⟩;have hC:Calls Tryz.prog 345 #[.pointer (some ⟨g,0,none⟩),.string s] V (IY V g pf v { h with bytes:=b } r):=by
  rw[hr];exact Yg g pf v { h with bytes:=b } s V q9.k hlen hmV
 rw[<- hr]at HE;clear hr;refine hC.mono ?_;rintro e w2 ⟨rfl,v',hk2,hv2,hf2⟩;have q3:=q9.adds hk2 hv2 hf2;have f15:=hk2.blk.frozen 15;have d14:=hk2.blk.cell 14;have d15:=hk2.blk.cell 15;have q4:=q3.status r.1;clear hC hk2 hv2 hf2 q3;go_wp2
 obtain⟨V3,hV3,q5⟩: ∃V3,V3=_/\ HW w (hS g pf v) V3 g pf v' _:=⟨_,rfl,q4⟩;rw[<- hV3];clear hV3 q4 d14 d15 f15;obtain⟨c14,c15⟩:=q5.ends (b:=false) (n:=r.1) H1.out rfl;go_quiet (fail)
 go_wp2
 go_ret2
 exact hlp (q5.drewN _) (by rw[HE.out]) H1.out.symm rfl
theorem HW.how {w0 w:World} {S:Nat-> Prop} {g pf:Nat} {v:Value} {h:HS} (q:HW w0 S w g pf v h) (y:How):HW w0 S ((((w.setCell ⟨g,10,none⟩ (.int .i64 y.kind)).setCell ⟨g,11,none⟩ (.int .i64 y.len)).setCell ⟨g,12,none⟩ (.bool y.close)).setCell ⟨g,13,none⟩ (.bool y.expect)) g pf v { h with how:=y } :=by
 have h1:HW w0 S (w.setCell ⟨g,10,none⟩ (.int .i64 y.kind)) g pf v { h with how:=⟨y.kind,h.how.len,h.how.close,h.how.expect⟩ } :=q.ay 10 _ (by simp[bn]) rfl
 have h2:HW w0 S _ g pf v { h with how:=⟨y.kind,y.len,h.how.close,h.how.expect⟩ } :=h1.ay 11 (.int .i64 y.len) (by simp[bn]) rfl
 have h3:HW w0 S _ g pf v { h with how:=⟨y.kind,y.len,y.close,h.how.expect⟩ } :=h2.ay 12 (.bool y.close) (by simp[bn]) rfl
 exact h3.ay 13 (.bool y.expect) (by simp[bn]) rfl
abbrev S60 (g pf:Nat) (n:Int) (w:World):Prop:=w.cell? ⟨g,6,none⟩=some (.int .i64 n)/\ w.cell? ⟨g,0,none⟩=some (.pointer (some ⟨pf,0,none⟩))
theorem S60.ay {g pf:Nat} {n:Int} {w:World} (h:S60 g pf n w) {j:Nat} {u:Value} (h6:j≠6) (h0:j≠0):S60 g pf n (w.setCell ⟨g,j,none⟩ u):=by
 unfold S60 at*;rw[World.cell?_setCell_other _ (⟨g,j,none⟩:Addr) (⟨g,6,none⟩:Addr) _ (fun e=>h6 (by injection e)),World.cell?_setCell_other _ (⟨g,j,none⟩:Addr) (⟨g,0,none⟩:Addr) _ (fun e=>h0 (by injection e))]
 exact h
theorem Jr (g pf:Nat) (v:Value) (h:HS) (s:ByteArray) (w:World) (k:HK w g pf v h) (hi:AL h) (ho:h.on=true) (hs:s.size=0) (hg:h.begun=true) (hc: ¬(256<s.size\/ 1024<hB h s.data.toList)) (hm:ML w) (hh:Hi (hS g pf v)):
 Calls Tryz.prog 331 #[.pointer (some ⟨g,0,none⟩),.string s] w (oV w g (hS g pf v) (jP h s.data.toList)):=by
 obtain rfl:s=⟨#[]⟩:=fQ (List.eq_nil_of_length_eq_zero (by rw[au];exact hs))
 obtain⟨h1,h2⟩:=h.eY ho;have hE:=lq h [] ho;rw[if_neg (by exact hc)]at hE
 have HO:=Lib.hid (hi.on h1 h2);clear ho;obtain⟨b,hbb⟩: ∃b,b=hB h []:=⟨_,rfl⟩;have hbe:b=h.bytes+min 0 257+2:=by rw[hbb];unfold hB;rfl
 rw[<- hbb]at hE hc;clear hbb;have q:=HW.refl k;have hb:=k.blk;unfold bn at hb;obtain⟨⟨j0,j1,j2,j3,j4,j5,j6,j7,j8,j9,j10,j11,j12,j13,j14,j15⟩,i0,i1,i2,i3,i4,i5,i6,i7,i8,i9,i10,i11,i12,i13,i14,i15⟩:=Blk.c16 hb;have hbn:=hi.bytes;have hemp:=hi.empty;rw[h1]at j14;rw[h2]at j15;have H1:=Lib.hid h1;have H2:=Lib.hid h2;clear h1 h2;rw[if_neg (by rw[hg];decide),if_pos rfl]at hE
 have HE:=Lib.hid hE;rw[hg]at j7;have hlen:=hi.len;have hsz:=hi.sz;have hp:FP w (some ⟨pf,0,none⟩) h.bJ:=.inr ⟨pf,rfl,k.fa.rd⟩;clear hE hb hi hg j1 j2 j3 j4 j5 j8 i0 i1 i2 i3 i4 i5 i6 i7 i8;have hbe2:b=h.bytes+2:=by rw[hbe];rfl
 have hmin0:min (0:Int) 257=0:=rfl;have hb10: ¬1024<b:=fun h0=>hc (.inr h0)
 clear hbe hc;obtain⟨r,hr⟩: ∃r,r=yV (decide (1<= h.minor)) h.bJ:=⟨_,rfl⟩;have q9:=q.bytes (n:=(h.bytes:Int)+2) (m:=b) (by omega)
 obtain⟨V,hV⟩: ∃V,V=w.setCell ⟨g,9,none⟩ (.int .i64 ((h.bytes:Int)+2)):=⟨_,rfl⟩;rw[<- hV]at q9;have hmV:ML V:=hm.fr q9.m.fr hh;have hpV:FP V (some ⟨pf,0,none⟩) h.bJ:=.inr ⟨pf,rfl,q9.k.fa.rd⟩;have hC: ∀n,Calls Tryz.prog 344 #[.int .i64 h.minor,.pointer (some ⟨pf,0,none⟩)] (V.drewN n) fun e w'=>e= .returned (FT r)/\ Below V.heap.size V w':=fun n=>by
  rw[hr];exact(aaw h.minor (some ⟨pf,0,none⟩) h.bJ (V.drewN n) (hpV.ah (below_drewN' (Below.refl _ _) n)) hlen hsz (hmV.drewN n)).mono fun e w' ⟨h1,h2⟩=>⟨h1,stepW (below_drewN' (Below.refl _ _) n) h2⟩
 rw[<- hr]at HE;clear hr;obtain⟨y,st⟩:=r;have hbV:=q9.k.blk;unfold bn at hbV;obtain⟨⟨d0,d1,d2,d3,d4,d5,d6,d7,d8,d9,d10,d11,d12,d13,d14,d15⟩,f0,f1,f2,f3,f4,f5,f6,f7,f8,f9,f10,f11,f12,f13,f14,f15⟩:=Blk.c16 hbV;clear hp hpV k hbV d1 d2 d3 d4 d5 d7 d8 d9 f0 f1 f2 f3 f4 f5 f6 f7 f8 f9;go_enter Tryz.func331,Tryz.ntmps331
 go_wp2_with fail
 rw[<- hV];clear hV j0 j6 j7 j9 j10 j11 j12 j13 j14 j15 i9 i10 i11 i12 i13 i14 i15 q;have hgV:=q9.k.blk.lt;rw[show FT (y,st)= .tuple #[IG y,.int .i64 st]from rfl]at hC
 unfold IG at hC;have hS0:S60 g pf h.minor V:=⟨d6,d0⟩;go_region_held3 (fun w'=>w'.cell? ⟨g,6,none⟩=some (.int .i64 h.minor)/\ w'.cell? ⟨g,0,none⟩=some (.pointer (some ⟨pf,0,none⟩)))
  (first|with_reducible exact hS0|with_reducible exact S4| ((repeat (with_reducible refine S60.ay ?_ (by decide) (by decide)));with_reducible exact S4)|go_keep)
  (first
    | (go_at_call 344
       refine(hC 0).mono ?_;rintro e w4 ⟨rfl,L4⟩;have q4:=q9.ah L4;have S4:S60 g pf h.minor w4:=⟨(L4.cell (p:=⟨g,6,none⟩) hgV).trans d6,(L4.cell (p:=⟨g,0,none⟩) hgV).trans d0⟩;have hu:=q4.k.blk;unfold bn at hu;obtain⟨⟨g0,g1,g2,g3,g4,g5,g6,g7,g8,g9,g10,g11,g12,g13,g14,g15⟩,e0,e1,e2,e3,e4,e5,e6,e7,e8,e9,e10,e11,e12,e13,e14,e15⟩:=Blk.c16 hu
       clear hu g0 g1 g2 g3 g4 g5 g6 g7 g8 g9 e0 e1 e2 e3 e4 e5 e6 e7 e8 e9)
    | (go_at_call 344
       refine(hC 1).mono ?_;rintro e w4 ⟨rfl,L4⟩;have q4:=q9.ah L4;have S4:S60 g pf h.minor w4:=⟨(L4.cell (p:=⟨g,6,none⟩) hgV).trans d6,(L4.cell (p:=⟨g,0,none⟩) hgV).trans d0⟩;have hu:=q4.k.blk;unfold bn at hu;obtain⟨⟨g0,g1,g2,g3,g4,g5,g6,g7,g8,g9,g10,g11,g12,g13,g14,g15⟩,e0,e1,e2,e3,e4,e5,e6,e7,e8,e9,e10,e11,e12,e13,e14,e15⟩:=Blk.c16 hu
       clear hu g0 g1 g2 g3 g4 g5 g6 g7 g8 g9 e0 e1 e2 e3 e4 e5 e6 e7 e8 e9))
 go_wp2_with fail
 have q5:=(((q4.how y).status st)).whole (st==0);obtain⟨V3,hV3,q6⟩: ∃V3,V3=_/\ HW w (hS g pf v) V3 g pf v _:=⟨_,rfl,q5⟩;rw[<- hV3];clear hV3 q4 q5 q9;obtain⟨c14,c15⟩:=q6.ends (b:=st==0) (n:=st) rfl rfl;go_quiet (fail)
 go_wp2
 go_ret2
 exact hlp (q6.drewN _) (by rw[HE.out];congr 1) rfl rfl
theorem YM (g:Nat) (S:Nat-> Prop) (h:HS) (s:ByteArray) (w:World) (k:HR w g S h) (hi:AL h) (hz:s.size<= 1000000) (hm:ML w) (hh:Hi S):
 Calls Tryz.prog 331 #[.pointer (some ⟨g,0,none⟩),.string s] w (oV w g S (jP h s.data.toList)):=by
 cases ho:h.on
 ·rw[xR h _ ho]
  exact Jq g S h s w k ho
 obtain⟨pf,v,rfl,kk⟩:=k;by_cases hc:256<s.size\/ 1024<hB h s.data.toList
 ·exact GH g pf v h s w kk hi ho hz hc
 cases hg:h.begun
 ·rcases Nat.eq_zero_or_pos s.size with h0|h0
  ·exact Dt g pf v h s w kk hi ho h0 hg hc
  ·exact Du g pf v h s w kk hi ho h0 hg hc hm hh
 ·rcases Nat.eq_zero_or_pos s.size with h0|h0
  ·exact Jr g pf v h s w kk hi ho h0 hg hc hm hh
  ·exact Dv g pf v h s w kk hi ho h0 hg hc hm hh
end Go.Proofs.YtdmondfpepbniaaGreatDoor
