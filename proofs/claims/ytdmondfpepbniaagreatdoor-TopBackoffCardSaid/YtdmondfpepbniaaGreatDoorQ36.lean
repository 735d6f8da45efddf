/- Part 36 of the proof: VnE VlD VwD ReQ VmC VmIa Lw18 Go. -/
import GoSem.ClaimGoes
import Derived.KernelRfl
import Derived.Test.YtdmondfpepbniaaGreatDoorQ30
import Derived.Test.YtdmondfpepbniaaGreatDoorQ33
import Derived.Test.YtdmondfpepbniaaGreatDoorQ34
namespace Go.Proofs.YtdmondfpepbniaaGreatDoor
open Go.RowKit
set_option maxRecDepth 100000
set_option maxHeartbeats 4000000
set_option linter.all false
theorem J6 (w:World) (t:Nat-> Nat) (m gn:Nat) (n:cu) (h:fP w t m gn n):
 Calls Tryz.prog 141 #[pV gn,.int .i64 (-1)] w fun e w'=>e= .returned (.tuple #[.bool (iY n (-1)).1,.bool (iY n (-1)).2])/\ ∃q,w'=w.drewN q:=by
 obtain⟨A,vc,vq,h⟩:=h;obtain⟨Aq,cq,rfl,-,-,-,-⟩:=h.q.form;have j2:w.cell? ⟨gn,2,none⟩=some (.slice Aq n.queue.length cq):=h.b.b.cell 2;have HR:=Lib.hid (show iY n (-1)=(decide (0<n.queue.length),false)from rfl)
 go_enter Tryz.func141,Tryz.ntmps141
 go_wp2_with fail
 go_ret2
 exact⟨by rw[HR.out];rfl,0,rfl⟩
theorem Rx (w:World) (t:Nat-> Nat) (m gn:Nat) (n:cu) (i:Nat) (x:NC) (h:fP w t m gn n) (hx:n.aG[i]? = some x) (hh:x.halved=false) (hb:x.broken=false):
 Calls Tryz.prog 141 #[pV gn,nV i] w fun e w'=>e= .returned (.tuple #[.bool (iY n (i:Int)).1,.bool (iY n (i:Int)).2])/\ ∃q,w'=w.drewN q:=by
 obtain⟨A,vc,vq,h⟩:=h;have hi:i<n.aG.length:=(List.getElem?_eq_some_iff.1 hx).1;have hAt:=yg w t m gn n A vc vq h i hi;obtain⟨g0,hg0,vi,vg,vt,hk⟩:=h.k i x hx;obtain⟨Ai,ci,rfl,-,-,-,-⟩:=hk.i.form;have j1:w.cell? ⟨g0,1,none⟩=some (.bool x.op):=hk.b.b.cell 1;have j2:w.cell? ⟨g0,2,none⟩=some (.bool false):=by rw[<- hb];exact hk.b.b.cell 2
 have j4:w.cell? ⟨g0,4,none⟩=some (.bool false):=by rw[<- hh];exact hk.b.b.cell 4
 have j5:w.cell? ⟨g0,5,none⟩=some (.bool x.shut):=hk.b.b.cell 5;have j7:w.cell? ⟨g0,7,none⟩=some (.slice Ai x.inp.length ci):=hk.b.b.cell 7;have j8:w.cell? ⟨g0,8,none⟩=some (nV x.window):=hk.b.b.cell 8;have hne:((i:Int)== -1)=false:=beq_false_of_ne (by omega)
 have HR:=Lib.hid (show iY n (i:Int)=if x.op then(decide (0<x.inp.length),decide (0<x.window)&& !x.shut)else(false,false) by
  rw[iY,if_neg (by omega)]
  simp only[Int.toNat_natCast,hx,Ob,hh,hb]
  cases x.op<;>simp)
 go_enter Tryz.func141,Tryz.ntmps141
 go_wp2_with fail
 refine hAt.mono ?_;rintro e w1 ⟨⟨g,hg,rfl⟩,rfl⟩;obtain rfl:g0=g:=by rw[hg0]at hg;exact Option.some.inj hg
 clear hAt hg;generalize hd1:decide (0<x.inp.length)=d1 at*;generalize hd2:decide (0<x.window)=d2 at*;generalize x.shut=sh at*;generalize x.op=o at*;cases o
 ·go_wp2_with fail
  go_ret2
  exact⟨by rw[HR.out];rfl,0,rfl⟩
 ·cases d1
  ·cases d2
   ·go_wp2_with fail
    go_quiet (fail)
    go_wp2_with fail
    go_ret2
    exact⟨by rw[HR.out];rfl,_,rfl⟩
   ·cases sh
    ·go_wp2_with fail
     go_quiet (fail)
     go_wp2_with fail
     go_ret2
     exact⟨by rw[HR.out];rfl,_,rfl⟩
    ·go_wp2_with fail
     go_quiet (fail)
     go_wp2_with fail
     go_ret2
     exact⟨by rw[HR.out];rfl,_,rfl⟩
  ·cases d2
   ·go_wp2_with fail
    go_quiet (fail)
    go_wp2_with fail
    go_ret2
    exact⟨by rw[HR.out];rfl,_,rfl⟩
   ·cases sh
    ·go_wp2_with fail
     go_quiet (fail)
     go_wp2_with fail
     go_ret2
     exact⟨by rw[HR.out];rfl,_,rfl⟩
    ·go_wp2_with fail
     go_quiet (fail)
     go_wp2_with fail
     go_ret2
     exact⟨by rw[HR.out];rfl,_,rfl⟩
def Xo (n:cu) (x:WS):Prop:=x.id= -1\/ ∃(i:Nat) (c:NC),x.id=(i:Int)/\ n.aG[i]? = some c/\ c.halved=false/\ c.broken=false
theorem Ny (w:World) (t:Nat-> Nat) (mn gn:Nat) (n:cu) (x:WS) (h:fP w t mn gn n) (hx:Xo n x):
 Calls Tryz.prog 141 #[pV gn,.int .i64 x.id] w fun e w'=>e= .returned (.tuple #[.bool (iY n x.id).1,.bool (iY n x.id).2])/\ ∃q,w'=w.drewN q:=by
 rcases hx with hx| ⟨i,c,hx,hc,h1,h2⟩
 ·rw[hx];exact J6 w t mn gn n h
 ·rw[hx];exact Rx w t mn gn n i c h hc h1 h2
theorem Ry (w:World) (t:Nat-> Nat) (m mn gn g:Nat) (p:fK) (n:cu) (gs b gx:Nat) (a:Hn) (x:WS) (L:WL) (h:nX w t m gn g p gs b L) (hL:(a,(gx,x))∈L) (hn:fP w t mn gn n) (hx:Xo n x):
 Calls Tryz.prog 87 #[pV g,pV gx] w fun e w'=>e= .returned (.tuple #[.bool (pJ n x).1,.bool (pJ n x).2])/\ ∃q,w'=w.drewN q:=by
 have hR:=fun q=>Ny (w.drewN q) t mn gn n x (by obtain⟨A,vc,vq,hb⟩:=hn;exact⟨A,vc,vq,hb.drewN q⟩) hx
 have hT:pJ n x=((iY n x.id).1&&x.rd,(iY n x.id).2&&x.wr):=rfl;rw[hT];clear hT;obtain⟨⟨r1,r2⟩,hr⟩: ∃r,iY n x.id=r:=⟨_,rfl⟩;simp only[hr]at hR⊢;have hX:=(h.x _ hL).b;obtain⟨x0,x1,x2,x3,-,-,-,-,-,-,-,-⟩:=hX.c6;obtain⟨j0,-,-,-,-,-⟩:=h.b.b.c3;obtain⟨i,rd,wr⟩:=x;simp only at x0 x1 x2 x3 hR⊢;clear hX hL hn hx hr h;go_enter Tryz.func87,Tryz.ntmps87
 go_upto_region 1 with(fail)
 go_quiet ((go_at_call 141;exact zn (hR _)))
 clear hR j0 x0;cases r1<;>cases r2
 all_goals
  go_upto_region 2 with(fail)
  go_quiet (fail)
  go_wp2_with fail
  go_ret2
  exact⟨by simp,_,rfl⟩
theorem WhB.del {w w':World} {t t':Nat-> Nat} {m g:Nat} {s:WhS} {gs bt:Nat} {LB:Nat-> Nat} {T:TL} {a:Hn} (h:WhB w t m g s gs bt LB T) (hA:MT w' t' (m+6) bt hnV iH (fun y:Nat×jh=>pV y.1) (jO T a)) (st:Stp (fun y=>y=m+6) w t w' t'):
 WhB w' t' m g { s with dZ:=jO s.dZ a } gs bt LB (jO T a):=by
 refine⟨h.b.keep st (by omega),h.sb.keep st (by omega) (by omega),hA,?_,Hg _ _ _ h.d,fun y hy=>(h.x y (V8 hy)).keep st (by omega),fun k hk=>(h.z k hk).keep st (by omega)⟩
 rw[<- h.l];exact(V7 (fun y:Nat×jh=>y.2) T a).symm
def st1 (st:Int) (fs:List Fd):RL:=⟨st,fs,1,false,false,false,0⟩
section
variable (w:World) (t:Nat-> Nat) (g:Nat) (s s':SrS) (P:SrP) (L:CL) (i gl gc:Nat) (x:ClS)
theorem Fb (h:aZ w t g s P L) (hx:aT L i=some (gl,gc,x)) (hs:wM s x=some s'):
 Calls Tryz.prog 83 #[pV g,pV gl] w fun e w'=>e= .returned (.tuple #[])/\ ∃t',yC w' t' g s' P/\ Stp SM w t w' t':=by
 rw[wM]at hs;have hX:=h.one hx;have HI:=Lib.hid (show x.id=i from hX.i)
 have hiz:i<1000:=hX.z;rcases hd:Ce s.cf x.c with _|d
 ·rw[hd]at hs;exact absurd hs (by simp)
 rw[hd]at hs;simp only at hs;obtain⟨hgd,hs⟩:=aI hs;simp only[Bool.and_eq_true,decide_eq_true_eq,OA]at hgd;obtain⟨g1,g2,g3,g4,g5,g6,g7,g8,g9,g10,g11,g12⟩:=hgd;have hD:=H8 w t _ gc s.cf P.tv P.gs x.c hX.c (fun _=>g5) g7 ⟨g6,g8,g9,g10,g11,g12⟩
 rw[hd]at hD;have hD:Calls Tryz.prog 123 #[pV gc] w fun e w'=>e= .returned (.tuple #[nV d,.bool true])/\ Below w.heap.size w w':=hD
 clear hd g5 g6 g7 g8 g9 g10 g11 g12;have j0:w.cell? ⟨gl,0,none⟩=some (pV gc):=hX.b.b.cell 0;go_enter Tryz.func83,Tryz.ntmps83
 go_wp2_with fail
 refine hD.mono ?_;rintro e w1 ⟨rfl,L1⟩;have s1:=Stp.below L1 (fun _=>False) t
 have h1:=h.keep s1 (fun _ _ h=>h) id
 clear hD h hX j0 L1;have hX:=h1.one hx;have j1:w1.cell? ⟨gl,1,none⟩=some (nV x.id):=hX.b.b.cell 1;have j6:w1.cell? ⟨gl,6,none⟩=some (nV x.timer.1):=hX.b.b.cell 6;have j7:w1.cell? ⟨gl,7,none⟩=some (nV x.timer.2):=hX.b.b.cell 7;have j8:w1.cell? ⟨gl,8,none⟩=some (.bool x.timed):=hX.b.b.cell 8;have j9:w1.cell? ⟨gl,9,none⟩=some (nV x.at_):=hX.b.b.cell 9;have j19:w1.cell? ⟨g,19,none⟩=some (pV P.gw):=h1.b.b.cell 19;cases ht:x.timed
 ·rw[ht]at hs j8
  simp only[Bool.false_eq_true,if_false,Option.some.injEq]at hs;subst hs;have hIt: ∀W tW,aZ W tW g s P L-> W.cell? ⟨g,19,none⟩=some (pV P.gw)/\ W.cell? ⟨gl,1,none⟩=some (nV x.id):=fun W tW hh=>⟨hh.b.b.cell 19,(hh.one hx).b.b.cell 1⟩
  have zd:=(Stp.refl (fun _=>False) w1 t).drew
  have hd1:=h1.keep zd (fun _ _ h=>h) id
  obtain⟨τ,hτ,hfr⟩:=dW w t;have za:=Stp.alloc w1 t (fun _=>False) (.cells #[.int .i64 0,.int .i64 0] 72) τ
  have ba:=BT.new' w1 t τ w1.heap.size rfl 72 #[.int .i64 0,.int .i64 0];have ha1:=h1.keep za (fun _ _ h=>h) id
  have S0:=hIt _ _ h1;have Sd:=hIt _ _ hd1;have Sa:=hIt _ _ ha1;have Sb:=hIt _ _ (ha1.keep (Stp.refl (fun _=>False) _ _).drew (fun _ _ h=>h) id)
  have hA1:=OG w1.drew t 100 P.gw s.wh d (x.id:Int) hd1.lD g2 g1 g3 (by omega) g4 (by omega)
  have hA2:=OG _ _ 100 P.gw s.wh d (x.id:Int) (ha1.keep (Stp.refl (fun _=>False) _ _).drew (fun _ _ h=>h) id).lD g2 g1 g3 (by omega) g4 (by omega)
  have H1: ∃q1 q2,(nK s.wh d (x.id:Int)).2=(q1,q2):=⟨_,_,rfl⟩;obtain⟨q1,q2,hq⟩:=H1;rw[hq]at hA1 hA2;have HQ:=Lib.hid hq;clear hq;go_upto_region 1 with(fail)
  go_region_held3 (fun W=>W.cell? ⟨g,19,none⟩=some (pV P.gw)/\ W.cell? ⟨gl,1,none⟩=some (nV x.id))
   (first|exact S0|exact Sd|exact Sa|exact Sb|exact X2|exact Xf3|go_keep)
   (first
     | (go_at_call 139
        refine hA1.mono ?_;rintro e w2 ⟨rfl,t2,hw2,s2⟩;have h2:=hd1.wV _ s2 hw2
        have X2:w2.cell? ⟨g,19,none⟩=some (pV P.gw)/\ w2.cell? ⟨gl,1,none⟩=some (nV x.id):=⟨h2.b.b.cell 19,(h2.one hx).b.b.cell 1⟩)
     | (go_at_call 139
        refine hA2.mono ?_;rintro e w2 ⟨rfl,t2,hw2,s2⟩;have h3:=(ha1.keep (Stp.refl (fun _=>False) _ _).drew (fun _ _ h=>h) id).wV _ s2 hw2
        have ba2:=(ba.keep (Stp.refl (fun _=>False) _ _).drew id).keep s2 (by omega)
        have f20:w2.frozen? ⟨w1.heap.size,0,none⟩=false:=ba2.b.frozen 0;have f21:w2.frozen? ⟨w1.heap.size,1,none⟩=false:=ba2.b.frozen 1;have g20:w2.cell? ⟨w1.heap.size,0,none⟩=some (.int .i64 0):=ba2.b.cell 0;have g21:w2.cell? ⟨w1.heap.size,1,none⟩=some (.int .i64 0):=ba2.b.cell 1;have X2:w2.cell? ⟨g,19,none⟩=some (pV P.gw)/\ w2.cell? ⟨gl,1,none⟩=some (nV x.id):=⟨h3.b.b.cell 19,(h3.one hx).b.b.cell 1⟩;obtain⟨bb1,zz1⟩:=ba2.aH 0 (nV q1);obtain⟨bb2,zz2⟩:=bb1.aH 1 (nV q2);have h4:=(h3.keep zz1 (by omega) (by omega)).keep zz2 (by omega) (by omega)
        have Xf3:((w2.setCell ⟨w1.heap.size,0,none⟩ (nV q1)).setCell ⟨w1.heap.size,1,none⟩ (nV q2)).cell? ⟨g,19,none⟩=some (pV P.gw)/\ ((w2.setCell ⟨w1.heap.size,0,none⟩ (nV q1)).setCell ⟨w1.heap.size,1,none⟩ (nV q2)).cell? ⟨gl,1,none⟩=some (nV x.id):=⟨h4.b.b.cell 19,(h4.one hx).b.b.cell 1⟩))
  ·have sz:=Stp.alloc w2 t2 (fun _=>False) (.cells #[nV q1,nV q2] 72) 9
   have bF:=BT.new' w2 t2 9 w2.heap.size rfl 72 #[nV q1,nV q2];have hF:=h2.keep sz (fun _ _ h=>h) id
   have sF:=(((s1.trans zd fun _ h=>h).mono (S':=SM) fun _ h=>h.elim).trans s2 fun y (h:Mk 100 340 y)=>(show SM y by omega)).trans sz fun _ h=>h.elim
   obtain⟨W7,hW7⟩: ∃W,W=w2.alloc (.cells #[nV q1,nV q2] 72):=⟨_,rfl⟩;obtain⟨B7,hB7⟩: ∃B,B=w2.heap.size:=⟨_,rfl⟩;obtain⟨tF,htF⟩: ∃t',t'=upT t2 w2 9:=⟨_,rfl⟩;rw[<- hW7,<- htF]at hF bF sF;rw[<- hB7]at bF⊢;rw[<- hW7];clear hW7 hB7 htF X2 h2 h1 hd1 ha1 hA1 hA2 S0 Sd Sa Sb hIt zd za ba s1 s2 hw2 sz hX j1 j6 j7 j8 j9 j19;have jb0:W7.cell? ⟨B7,0,none⟩=some (nV q1):=bF.b.cell 0;have jb1:W7.cell? ⟨B7,1,none⟩=some (nV q2):=bF.b.cell 1;have f6:W7.frozen? ⟨gl,6,none⟩=false:=(hF.one hx).b.b.frozen 6;have f7:W7.frozen? ⟨gl,7,none⟩=false:=(hF.one hx).b.b.frozen 7;have f8:W7.frozen? ⟨gl,8,none⟩=false:=(hF.one hx).b.b.frozen 8;have f9:W7.frozen? ⟨gl,9,none⟩=false:=(hF.one hx).b.b.frozen 9;have i6:W7.cell? ⟨gl,6,none⟩=some (nV x.timer.1):=(hF.one hx).b.b.cell 6;have i7:W7.cell? ⟨gl,7,none⟩=some (nV x.timer.2):=(hF.one hx).b.b.cell 7;have i8:W7.cell? ⟨gl,8,none⟩=some (.bool x.timed):=(hF.one hx).b.b.cell 8;have i9:W7.cell? ⟨gl,9,none⟩=some (nV x.at_):=(hF.one hx).b.b.cell 9;obtain⟨k1,z1⟩:=hF.mQ hx 6 (nV q1) { x with timer:=(q1,x.timer.2) } rfl rfl rfl;obtain⟨k2,z2⟩:=k1.mQ (dw hx _) 7 (nV q2) { x with timer:=(q1,q2) } rfl rfl rfl;obtain⟨k3,z3⟩:=k2.mQ (dw (dw hx _) _) 8 (.bool true) { x with timer:=(q1,q2),timed:=true } rfl rfl rfl;obtain⟨k4,z4⟩:=k3.mQ (dw (dw (dw hx _) _) _) 9 (nV d) { x with timer:=(q1,q2),timed:=true,at_:=d } rfl rfl rfl;have e0:cM i=3000+50*i:=rfl;have sG:=(((sF.trans z1 fun y (h:y=cM i)=>(show SM y by omega)).trans z2 fun y (h:y=cM i)=>(show SM y by omega)).trans z3 fun y (h:y=cM i)=>(show SM y by omega)).trans z4 fun y (h:y=cM i)=>(show SM y by omega)
   have e4:((((({ s with wh:=(nK s.wh d (x.id:Int)).1 } :SrS).put i { x with timer:=(q1,x.timer.2) }).put i { x with timer:=(q1,q2) }).put i { x with timer:=(q1,q2),timed:=true }).put i { x with timer:=(q1,q2),timed:=true,at_:=d })=({ s with wh:=(nK s.wh d (x.id:Int)).1 } :SrS).put x.id { x with timer:=(nK s.wh d (x.id:Int)).2,timed:=true,at_:=d } :=by
    rw[HQ.out];simp only[SrS.put,oq];rw[HI.out]
   rw[e4]at k4;clear k1 k2 k3 z1 z2 z3 z4 e4 hF sF bF HQ;go_wp2_with fail
   go_end0
   exact⟨rfl,tF,⟨_,k4⟩,sG⟩
  ·have zs:=zz1.trans zz2 fun _ h=>h
   have sF:=((((s1.trans za fun _ h=>h).trans (Stp.refl (fun _=>False) _ _).drew fun _ h=>h).mono (S':=fun y=>SM y\/ y=τ) fun _ h=>h.elim).trans s2 fun y (h:Mk 100 340 y)=>(show SM y\/ y=τ by omega)).trans zs fun y (h:y=τ)=>(show SM y\/ y=τ from .inr h)
   have sF:=sF.drop (S':=SM) fun k hk hS=>hS.elim id fun h=>absurd h (by have:=hfr k hk;omega)
   have hF:=h4;have bF:=bb2;obtain⟨W7,hW7⟩: ∃W,W=(w2.setCell ⟨w1.heap.size,0,none⟩ (nV q1)).setCell ⟨w1.heap.size,1,none⟩ (nV q2):=⟨_,rfl⟩;obtain⟨B7,hB7⟩: ∃B,B=w1.heap.size:=⟨_,rfl⟩;obtain⟨tF,htF⟩: ∃t',t'=t2:=⟨_,rfl⟩;rw[<- hW7,<- htF]at hF bF sF;rw[<- hB7]at bF⊢;rw[hB7,<- hW7];rw[<- hB7];clear hW7 hB7 htF X2 Xf3 h4 h3 h1 hd1 ha1 hA1 hA2 S0 Sd Sa Sb hIt zd za ba ba2 bb1 bb2 zz1 zz2 zs s1 s2 hw2 hX j1 j6 j7 j8 j9 j19 f20 f21 g20 g21;have jb0:W7.cell? ⟨B7,0,none⟩=some (nV q1):=bF.b.cell 0;have jb1:W7.cell? ⟨B7,1,none⟩=some (nV q2):=bF.b.cell 1;have f6:W7.frozen? ⟨gl,6,none⟩=false:=(hF.one hx).b.b.frozen 6;have f7:W7.frozen? ⟨gl,7,none⟩=false:=(hF.one hx).b.b.frozen 7;have f8:W7.frozen? ⟨gl,8,none⟩=false:=(hF.one hx).b.b.frozen 8;have f9:W7.frozen? ⟨gl,9,none⟩=false:=(hF.one hx).b.b.frozen 9;have i6:W7.cell? ⟨gl,6,none⟩=some (nV x.timer.1):=(hF.one hx).b.b.cell 6;have i7:W7.cell? ⟨gl,7,none⟩=some (nV x.timer.2):=(hF.one hx).b.b.cell 7;have i8:W7.cell? ⟨gl,8,none⟩=some (.bool x.timed):=(hF.one hx).b.b.cell 8;have i9:W7.cell? ⟨gl,9,none⟩=some (nV x.at_):=(hF.one hx).b.b.cell 9;obtain⟨k1,z1⟩:=hF.mQ hx 6 (nV q1) { x with timer:=(q1,x.timer.2) } rfl rfl rfl;obtain⟨k2,z2⟩:=k1.mQ (dw hx _) 7 (nV q2) { x with timer:=(q1,q2) } rfl rfl rfl;obtain⟨k3,z3⟩:=k2.mQ (dw (dw hx _) _) 8 (.bool true) { x with timer:=(q1,q2),timed:=true } rfl rfl rfl;obtain⟨k4,z4⟩:=k3.mQ (dw (dw (dw hx _) _) _) 9 (nV d) { x with timer:=(q1,q2),timed:=true,at_:=d } rfl rfl rfl;have e0:cM i=3000+50*i:=rfl;have sG:=(((sF.trans z1 fun y (h:y=cM i)=>(show SM y by omega)).trans z2 fun y (h:y=cM i)=>(show SM y by omega)).trans z3 fun y (h:y=cM i)=>(show SM y by omega)).trans z4 fun y (h:y=cM i)=>(show SM y by omega)
   have e4:((((({ s with wh:=(nK s.wh d (x.id:Int)).1 } :SrS).put i { x with timer:=(q1,x.timer.2) }).put i { x with timer:=(q1,q2) }).put i { x with timer:=(q1,q2),timed:=true }).put i { x with timer:=(q1,q2),timed:=true,at_:=d })=({ s with wh:=(nK s.wh d (x.id:Int)).1 } :SrS).put x.id { x with timer:=(nK s.wh d (x.id:Int)).2,timed:=true,at_:=d } :=by
    rw[HQ.out];simp only[SrS.put,oq];rw[HI.out]
   rw[e4]at k4;clear k1 k2 k3 z1 z2 z3 z4 e4 hF sF bF HQ;go_wp2_with fail
   go_end0
   exact⟨rfl,tF,⟨_,k4⟩,sG⟩
 ·rw[ht]at hs j8
  simp only[if_true]at hs;by_cases he:d=x.at_
  ·rw[if_pos he]at hs
   obtain rfl:=Option.some.inj hs;rw[<- he]at j9;go_wp2_with fail
   refine bodyPost_ret (results_none rfl _ _ _) rfl ?_;exact⟨rfl,t,⟨L,h1⟩,s1.mono fun _ h=>h.elim⟩
  ·rw[if_neg he]at hs
   have he1:((d:Int)==(x.at_:Int))=false:=beq_false_of_ne (by omega)
   rcases htm:aT s.wh.dZ x.timer with _|tm
   ·rw[htm]at hs;exact absurd hs (by simp)
   rw[htm]at hs;simp only at hs;obtain⟨hg2,hs⟩:=aI hs;simp only[Bool.and_eq_true,decide_eq_true_eq]at hg2;obtain⟨k1,k2,k3,k4⟩:=hg2;obtain rfl:=Option.some.inj hs;have zd:=(Stp.refl (fun _=>False) w1 t).drew
   have hR:=Rh w1.drew t 100 P.gw s.wh x.timer tm d (h1.keep zd (fun _ _ h=>h) id).lD ⟨k3,k4⟩ htm k1 k2 g2 g1 g3 (by omega)
   have S0:w1.cell? ⟨g,19,none⟩=some (pV P.gw)/\ w1.cell? ⟨gl,6,none⟩=some (nV x.timer.1)/\ w1.cell? ⟨gl,7,none⟩=some (nV x.timer.2):=⟨j19,j6,j7⟩;have Sd:w1.drew.cell? ⟨g,19,none⟩=some (pV P.gw)/\ w1.drew.cell? ⟨gl,6,none⟩=some (nV x.timer.1)/\ w1.drew.cell? ⟨gl,7,none⟩=some (nV x.timer.2):=⟨j19,j6,j7⟩;go_upto_region 6 with(fail)
   go_region_held3 (fun W=>W.cell? ⟨g,19,none⟩=some (pV P.gw)/\ W.cell? ⟨gl,6,none⟩=some (nV x.timer.1)/\ W.cell? ⟨gl,7,none⟩=some (nV x.timer.2))
    (first|exact S0|exact Sd|exact Xf3|go_keep)
    (first| (go_at_call 138
             refine hR.mono ?_;rintro e w2 ⟨rfl,t2,hw2,s2⟩;have h2:=h1.wV _ ((zd.mono (S':=Mk 100 340) fun _ h=>h.elim).trans s2 fun _ h=>h) hw2
             have Xf3:w2.cell? ⟨g,19,none⟩=some (pV P.gw)/\ w2.cell? ⟨gl,6,none⟩=some (nV x.timer.1)/\ w2.cell? ⟨gl,7,none⟩=some (nV x.timer.2):=⟨h2.b.b.cell 19,(h2.one hx).b.b.cell 6,(h2.one hx).b.b.cell 7⟩))
   have sA:=(s1.mono (S':=SM) fun _ h=>h.elim).trans ((zd.mono (S':=SM) fun _ h=>h.elim).trans s2 fun y (h:Mk 100 340 y)=>(show SM y by omega)) fun _ h=>h
   clear hR S0 Sd zd h1 hX s1 s2 j1 j6 j7 j8 j9 j19 hw2;have f8:w2.frozen? ⟨gl,8,none⟩=false:=(h2.one hx).b.b.frozen 8;have f9:w2.frozen? ⟨gl,9,none⟩=false:=(h2.one hx).b.b.frozen 9;have i8:w2.cell? ⟨gl,8,none⟩=some (.bool x.timed):=(h2.one hx).b.b.cell 8;have i9:w2.cell? ⟨gl,9,none⟩=some (nV x.at_):=(h2.one hx).b.b.cell 9;obtain⟨h3,z3⟩:=h2.mQ hx 8 (.bool true) { x with timed:=true } rfl rfl rfl;obtain⟨h4,z4⟩:=h3.mQ (dw hx _) 9 (nV d) { x with timed:=true,at_:=d } rfl rfl rfl;have e0:cM i=3000+50*i:=rfl;have sB:=(sA.trans z3 fun y (h:y=cM i)=>(show SM y by omega)).trans z4 fun y (h:y=cM i)=>(show SM y by omega)
   have e4:((({ s with wh:=rJ s.wh x.timer d } :SrS).put i { x with timed:=true }).put i { x with timed:=true,at_:=d })=({ s with wh:=rJ s.wh x.timer d } :SrS).put x.id { x with timed:=true,at_:=d } :=by
    rw[HI.out,SrS.put,SrS.put,SrS.put,oq]
   rw[e4]at h4;clear h3 h2 z3 z4 sA e4;go_wp2_with fail
   go_end0
   exact⟨rfl,t2,⟨_,h4⟩,sB⟩
end
theorem Xp {T:TypeId} (W:World) (t:Nat-> Nat) (τ B:Nat) (u0 u1 u2 u3 u4 u5 u6 u7 u8 u9 u10 u11 u12 u13 u14:Value) (hb:BT W t τ B T #[u0,u1,u2,u3,u4,u5,u6,u7,u8,u9,u10,u11,u12,u13,u14]) (v0 v1 v2 v3 v4 v5 v6 v7 v8 v9 v10 v11 v12 v13 v14:Value):
 ∃X,X=(((((((((((((((W.setCell ⟨B,0,none⟩ v0).setCell ⟨B,1,none⟩ v1).setCell ⟨B,2,none⟩ v2).setCell ⟨B,3,none⟩ v3).setCell ⟨B,4,none⟩ v4).setCell ⟨B,5,none⟩ v5).setCell ⟨B,6,none⟩ v6).setCell ⟨B,7,none⟩ v7).setCell ⟨B,8,none⟩ v8).setCell ⟨B,9,none⟩ v9).setCell ⟨B,10,none⟩ v10).setCell ⟨B,11,none⟩ v11).setCell ⟨B,12,none⟩ v12).setCell ⟨B,13,none⟩ v13).setCell ⟨B,14,none⟩ v14)/\ BT X t τ B T #[v0,v1,v2,v3,v4,v5,v6,v7,v8,v9,v10,v11,v12,v13,v14]/\ Stp (fun y=>y=τ) W t X t:=by
 obtain⟨m0,y0⟩:=hb.aH 0 v0;replace m0:=m0.to (show _= #[v0,u1,u2,u3,u4,u5,u6,u7,u8,u9,u10,u11,u12,u13,u14]from rfl)
 obtain⟨m1,y1⟩:=m0.aH 1 v1;replace m1:=m1.to (show _= #[v0,v1,u2,u3,u4,u5,u6,u7,u8,u9,u10,u11,u12,u13,u14]from rfl)
 obtain⟨m2,y2⟩:=m1.aH 2 v2;replace m2:=m2.to (show _= #[v0,v1,v2,u3,u4,u5,u6,u7,u8,u9,u10,u11,u12,u13,u14]from rfl)
 obtain⟨m3,y3⟩:=m2.aH 3 v3;replace m3:=m3.to (show _= #[v0,v1,v2,v3,u4,u5,u6,u7,u8,u9,u10,u11,u12,u13,u14]from rfl)
 obtain⟨m4,y4⟩:=m3.aH 4 v4;replace m4:=m4.to (show _= #[v0,v1,v2,v3,v4,u5,u6,u7,u8,u9,u10,u11,u12,u13,u14]from rfl)
 obtain⟨m5,y5⟩:=m4.aH 5 v5;replace m5:=m5.to (show _= #[v0,v1,v2,v3,v4,v5,u6,u7,u8,u9,u10,u11,u12,u13,u14]from rfl)
 obtain⟨m6,y6⟩:=m5.aH 6 v6;replace m6:=m6.to (show _= #[v0,v1,v2,v3,v4,v5,v6,u7,u8,u9,u10,u11,u12,u13,u14]from rfl)
 obtain⟨m7,y7⟩:=m6.aH 7 v7;replace m7:=m7.to (show _= #[v0,v1,v2,v3,v4,v5,v6,v7,u8,u9,u10,u11,u12,u13,u14]from rfl)
 obtain⟨m8,y8⟩:=m7.aH 8 v8;replace m8:=m8.to (show _= #[v0,v1,v2,v3,v4,v5,v6,v7,v8,u9,u10,u11,u12,u13,u14]from rfl)
 obtain⟨m9,y9⟩:=m8.aH 9 v9;replace m9:=m9.to (show _= #[v0,v1,v2,v3,v4,v5,v6,v7,v8,v9,u10,u11,u12,u13,u14]from rfl)
 obtain⟨m10,y10⟩:=m9.aH 10 v10;replace m10:=m10.to (show _= #[v0,v1,v2,v3,v4,v5,v6,v7,v8,v9,v10,u11,u12,u13,u14]from rfl)
 obtain⟨m11,y11⟩:=m10.aH 11 v11;replace m11:=m11.to (show _= #[v0,v1,v2,v3,v4,v5,v6,v7,v8,v9,v10,v11,u12,u13,u14]from rfl)
 obtain⟨m12,y12⟩:=m11.aH 12 v12;replace m12:=m12.to (show _= #[v0,v1,v2,v3,v4,v5,v6,v7,v8,v9,v10,v11,v12,u13,u14]from rfl)
 obtain⟨m13,y13⟩:=m12.aH 13 v13;replace m13:=m13.to (show _= #[v0,v1,v2,v3,v4,v5,v6,v7,v8,v9,v10,v11,v12,v13,u14]from rfl)
 obtain⟨m14,y14⟩:=m13.aH 14 v14;replace m14:=m14.to (show _= #[v0,v1,v2,v3,v4,v5,v6,v7,v8,v9,v10,v11,v12,v13,v14]from rfl)
 exact⟨_,rfl,m14,((((((((((((((y0.trans y1 fun _ h=>h).trans y2 fun _ h=>h).trans y3 fun _ h=>h).trans y4 fun _ h=>h).trans y5 fun _ h=>h).trans y6 fun _ h=>h).trans y7 fun _ h=>h).trans y8 fun _ h=>h).trans y9 fun _ h=>h).trans y10 fun _ h=>h).trans y11 fun _ h=>h).trans y12 fun _ h=>h).trans y13 fun _ h=>h).trans y14 fun _ h=>h)⟩
theorem J7 {P:Program} (src dst e:TypeId) (s:ByteArray) (hs:P.underlying src=some .string) (hd:P.underlying dst=some (.slice e)) (he:P.underlying e=some (.int .u8)) (hl:s.size<= maxLen):
 ∃(C:World-> Nat) (F:World-> World),(∀w,(convert src dst (.string s)).run P w= .ok (.slice (some ⟨w.heap.size,0,none⟩) s.size (C w)) (F w))/\
  (∀(w:World) (base:Nat),base<= w.heap.size-> Own (F w) base e 1 (.slice (some ⟨w.heap.size,0,none⟩) s.size (C w)) s.size (s.data.toList.map bv))/\ ∀w,Below w.heap.size w (F w):=by
 refine⟨fun w=>grownCap w s.size 0 e,fun w=>Lib.bytesWorld w e s,fun w=>Lib.run_convert_string_bytes (P:=P) w src dst e s hs hd he,fun w base hb=> ?_,fun w=> ?_⟩
 ·show Own (Lib.bytesWorld w e s) base e 1 (.slice (some ⟨w.heap.size,0,none⟩) s.size (grownCap w s.size 0 e)) s.size (s.data.toList.map bv)
  have hge:=grownCap_ge w s.size 0 e;have hcm:grownCap w s.size 0 e<= maxLen:=grownCap_le_maxLen w s.size 0 e hl;have hcells:(Lib.bytesCells w e s).size=grownCap w s.size 0 e:=by
   simp only[Lib.bytesCells,Array.size_append,Array.size_map,Array.size_replicate];have:s.data.size=s.size:=rfl;omega
  refine⟨by simp,.inr ⟨w.heap.size,_,_,_,rfl,hb,Lib.bytesWorld_at_new w e s,.inr (by rw[hcells];omega),hge,hcm,by rw[hcells];omega,?_⟩⟩
  simp only[Lib.bytesCells,Array.toList_append,Array.toList_map,Nat.mul_one];rw[List.take_append_of_le_length (by simp),List.take_of_length_le (by simp)]
 ·exact jJ ⟨rfl,rfl,rfl,by rw[Lib.bytesWorld_size];omega,fun k hk _=>Lib.bytesWorld_at_old w e s k hk⟩
def jW:Bs:= [72,84,84,80,47,49,46,49,32,49,48,48,32,67,111,110,116,105,110,117,101,13,10,13,10]
theorem Nz:bH 100= [67,111,110,116,105,110,117,101]:=by decide
theorem CQ (w:World):Calls Tryz.prog 33 #[] w fun e w'=> ∃c,e= .returned (.slice (some ⟨w.heap.size,0,none⟩) 25 c)/\ 25<= c/\ Own w' w.heap.size 5 1 (.slice (some ⟨w.heap.size,0,none⟩) 25 c) 25 (jW.map bv)/\ Below w.heap.size w w':=by
 obtain⟨C,F,hr,ho,hb⟩:=J7 (P:=Tryz.prog) 9 33 5 ⟨jW.toArray⟩ Tryz.underlying9 Tryz.underlying33 Tryz.underlying5 (by decide)
 have hcat:((⟨#[72,84,84,80,47,49,46,49,32,49,48,48,32]⟩++⟨#[67,111,110,116,105,110,117,101]⟩++⟨#[13,10]⟩++⟨#[13,10]⟩:ByteArray))=⟨jW.toArray⟩:=by decide +kernel
 have hr': ∀w,(convert 9 33 (.string (⟨#[72,84,84,80,47,49,46,49,32,49,48,48,32]⟩++⟨#[67,111,110,116,105,110,117,101]⟩++⟨#[13,10]⟩++⟨#[13,10]⟩))).run Tryz.prog w= .ok (.slice (some ⟨w.heap.size,0,none⟩) 25 (C w)) (F w):=fun w=>by rw[hcat];exact hr w
 have ho':=ho w w.heap.size (Nat.le_refl _);have hc:25<= C w:=(Own.rdS ho').1;have hP:=oC 100 w;rw[Nz]at hP;go_enter Tryz.func33,Tryz.ntmps33
 go_wp2_with fail
 refine hP.mono ?_;rintro e w1 ⟨rfl,rfl⟩;clear hcat hr;go_wp2
 go_ret
 exact⟨_,rfl,hc,ho',hb _⟩
theorem wO.no {w w':World} {e:Ending} (h:wO w ([],1) e w'): ∃A c,e= .returned (.tuple #[.slice A 0 c,.int .i64 1])/\ Below w.heap.size w w':=by
 obtain⟨A,c,h1,-,-,h4⟩:=h;exact⟨A,c,h1,h4⟩
theorem Rz {P:Program} (h:P.funcs.toList.any Func.goes=false) (f:FuncId):P.goes f=false:=by
 have key: ∀fn,fn∈P.funcs.toList-> fn.goes=false:=fun fn hfn=>by
  cases hg:fn.goes
  ·rfl
  ·rw[List.any_eq_false]at h
   exact absurd hg (h fn hfn)
 unfold Program.goes;rw[Bool.or_eq_false_iff];constructor
 ·rw[List.any_eq_false]
  intro g _;cases hx:P.funcs[g]? with
  |none=>simp
  |some fn=>
   rw[Option.any_some,key fn (by rw[Array.mem_toList_iff];exact Array.mem_of_getElem? hx)]
   simp
 ·rw[Bool.and_eq_false_iff]
  refine .inr ?_;rw[<- Array.any_toList];exact h
theorem goesBy_none {P:Program} {c:OpenClaim} (h:P.funcs.toList.any Func.goes=false) (hs:c.start= .entering):false=c.goesBy P:=by
 unfold OpenClaim.goesBy Program.goesAt Program.goesFrom;rw[hs];cases P.funcNamed c.func with
 |none=>rfl
 |some f=>rw[Option.any_some,Rz h];rfl
theorem goes_prog:Tryz.prog.funcs.toList.any Func.goes=false:=by kernel_rfl
end Go.Proofs.YtdmondfpepbniaaGreatDoor
