/- Part 32 of the proof: VuB VnB VnC Vo. -/
import Derived.Test.YtdmondfpepbniaaGreatDoorQ27
namespace Go.Proofs.YtdmondfpepbniaaGreatDoor
open Go.RowKit
set_option maxRecDepth 100000
set_option maxHeartbeats 4000000
set_option linter.all false
def CJ (w:World) (g i:Nat):Nat:=match w.cell? ⟨g,i,none⟩with|some (.slice _ n _)=>n|_=>0
theorem Xg (w:World) (t:Nat-> Nat) (m g:Nat) (q:xU) (n:Nat) (h:yc w t m g q) (hn:n<= q.b.length) (hq:q.b.length<= 1000000) (hp:q.pcs.length<= 100000) (hz: ∀p∈q.pcs,p.2<= 1000000):
 Calls Tryz.prog 132 #[.pointer (some ⟨g,0,none⟩),nV n] w fun e w'=> ∃v,e= .returned v/\ ∃t',RT w' t' (m+3) 3 1 v (fD q n).2.length ((fD q n).2.map nV)/\ yc w' t' m g (fD q n).1/\ Stp (Mk m 5) w t w' t':=by
 have hF:=EP w t m g q n h hn hq;obtain⟨vb,vp,hb,hr,hpr⟩:=h;have HR:=Lib.hid (show fD q n=(⟨q.b.drop n,(dR n q.pcs).2,q.last⟩,(dR n q.pcs).1) by rw[fD,Nat.min_eq_left hn])
 obtain⟨Ab,cb,rfl,-,-,-,-⟩:=hr.form;obtain⟨A',c',hs,hr2⟩:=RT.iI (T:=33) (by kernel_rfl) (fun w=>by kernel_rfl) hr n hn
 rw[Nat.mul_one]at hr2;go_enter Tryz.func132,Tryz.ntmps132
 go_wp2_with fail
 refine hF.mono ?_;rintro e w1 ⟨A,c,rfl,hc,hrd,hA,k,rfl⟩;have hb1:=hb.drewN k;have hr1:=hr2.drewN k;have hp1:=hpr.drewN k;have S1:Stp (Mk m 5) w t (w.drewN k) t:=(Stp.refl _ _ _).drewN k;generalize w.drewN k=W at*;obtain⟨j0,j1,j2,i0,i1,i2⟩:=hb1.b.c3;go_upto_region 6 with(fail)
 obtain⟨hb2,s2⟩:=hb1.aH 0 (.slice A' (q.b.length-n) c');have hr2:=hr1.keep s2 (by omega)
 have hp2:=hp1.keep s2 (by omega)
 have S2:=S1.trans s2 fun x (h:x=m)=>(show m<= x/\ x<m+5 by omega)
 go_loopw [1,5] (fun y v wr=> ∃(n':Nat) (ps:List (Nat×Nat)) (acc:List Nat) (t':Nat-> Nat) (vp':Value),y=nV n'/\ RT wr t' (m+3) 3 1 v acc.length (acc.map nV)/\ BT wr t' m g 222 #[.slice A' (q.b.length-n) c',vp',nV q.last]/\
  RT wr t' (m+1) 5 1 (.slice A' (q.b.length-n) c') (q.b.length-n) ((q.b.map bv).drop n)/\ RT wr t' (m+2) 268 2 vp' ps.length (lJ ps)/\ Hid (dR n q.pcs=(acc++(dR n' ps).1,(dR n' ps).2))/\ Stp (Mk m 5) w t wr t'/\
  Hid (n'<= n)/\ acc.length+ps.length<= q.pcs.length/\ Hid (∀p∈ps,p.2<= 1000000)) (fun _ _ wr=>CJ wr g 1)
 case atStart=>exact⟨n,q.pcs,[],t,vp,rfl,RT.nil _ _ _ _ _,hb2.to (by simp),hr2,hp2,Lib.hid (by simp),S2,Lib.hid (Nat.le_refl _),by simp,Lib.hid hz⟩
 case round=>
  obtain⟨n',ps,acc,t1,vp1,rfl,hv,hbw,hrw,hpw,HE,SW,Hn,hcnt,Hz⟩:=hrel;obtain⟨Ap,cp,rfl,-,-,-,-⟩:=hpw.form;obtain⟨Aw,cw,rfl,-,-,-,-⟩:=hv.form;clear j0 j1 j2 i0 i1 i2;obtain⟨j0,j1,j2,i0,i1,i2⟩:=hbw.b.c3;have hn':=Hn.out;have finish: ∀(r:List Nat×List (Nat×Nat)),dR n q.pcs=r-> fD q n=(⟨q.b.drop n,r.2,q.last⟩,r.1):=fun r hr=>by rw[HR.out,hr]
  rcases ps with _| ⟨p,ps⟩
  ·have HF:=Lib.hid (finish (acc,[]) (by rw[HE.out];simp[dR]))
   clear finish;go_wp2_with fail
   go_ret
   refine⟨_,rfl,t1,by rw[HF.out];exact hv,?_,SW⟩
   rw[HF.out];exact⟨_,_,hbw,by rw[List.length_drop,List.map_drop];exact hrw,hpw⟩
  ·obtain⟨gp,off,cq,hv1,hm,hgl,-,-,y0,y1,z0,z1⟩:=hpw.pc rfl 0 p rfl
   injection hv1 with hv2 _ hv3
   subst hv2 hv3;rw[Nat.zero_mul,Nat.add_zero]at y0 y1 z0 z1;have hlen:(p::ps).length=ps.length+1:=rfl;have hp2:=Hz.out p (List.mem_cons_self ..);by_cases hle:p.2<= n'
   ·have d1:decide (p.2<= n')=true:=by simpa using hle
    have HE2:=Lib.hid (show dR n q.pcs=((acc++ [p.1])++(dR (n'-p.2) ps).1,(dR (n'-p.2) ps).2) by rw[HE.out,dR,if_pos hle];simp)
    obtain⟨A2,c2,hs2,hr9⟩:=RT.iI (T:=220) (by kernel_rfl) (fun w=>by kernel_rfl) hpw 1 (by simp)
    have e2:((n'-p.2:Nat):Int)=(n':Int)- (p.2:Int):=by omega
    have E2:=Lib.hid e2;clear e2;have hpl:lJ (p::ps)=nV p.1::nV p.2::lJ ps:=rfl;rw[hpl,hlen,Nat.add_sub_cancel]at hr9;rw[hlen]at j1 hs2;simp only[Nat.add_sub_cancel]at hs2;have hs3': ∀w:World,(Instr.sliceAt 220 (.slice (some ⟨gp,off,none⟩) (ps.length+1) cp) (some (.int .i64 1)) none none).run Tryz.prog w= .ok (.slice A2 ps.length c2) w:=hs2;clear hs2;have hal:acc.length<= 100000:=by omega
    go_wp2_with (at_builtin;go_must (refine qy rfl _ _ 34 rfl 3 _ 1 8 Tryz.underlying34 rZ rfl t1 (m+3) (.slice Aw acc.length cw) acc.length (acc.map nV) rfl hv [nV p.1] wr.heap.size rfl rfl rfl (by intro u hu;simp at hu;subst hu;rfl) (by omega) ?_;intro v' w3 t3 hv3 hs3;obtain⟨A3,c3,rfl,-,-,-,-⟩:=hv3.form;have hb3:=hbw.keep (hs3 (fun x=>x=m+3) rfl) (by omega);obtain⟨k0,k1,k2,l0,l1,l2⟩:=hb3.b.c3;rw[hlen]at k1))
    go_roundw
    case rel=>
     obtain⟨hb4,s4⟩:=hb3.aH 1 (.slice A2 ps.length c2);have hr4:=(hrw.keep (hs3 (fun x=>x=m+3) rfl) (by omega)).keep s4 (by omega)
     have hp4:=(hr9.keep (hs3 (fun x=>x=m+3) rfl) (by omega)).keep s4 (by omega)
     refine⟨n'-p.2,ps,acc++ [p.1],t3,.slice A2 ps.length c2,by rw[nV,E2.out],?_,hb4.to (by simp),hr4,hp4,HE2,(SW.trans (hs3 (Mk m 5) (by omega)) fun _ h=>h).trans s4 fun x (h:x=m)=>(show m<= x/\ x<m+5 by omega),Lib.hid (by omega),by simp only[List.length_append,List.length_singleton];omega,Lib.hid fun x hx=>Hz.out x (List.mem_cons_of_mem _ hx)⟩
     simp only[List.length_append,List.length_singleton,List.map_append,List.map_cons,List.map_nil];exact hv3.keep s4 (by omega)
    case measure=>
     have m1: ∀V,V.cell? ⟨g,1,none⟩=some (.slice A2 ps.length c2)-> CJ V g 1=ps.length:=fun V h=>by rw[CJ,h]
     have m2:CJ wr g 1=ps.length+1:=by rw[CJ,j1]
     show CJ _ g 1<CJ wr g 1;rw[m2,m1 _ ((hb3.aH 1 (.slice A2 ps.length c2)).1.b.cell 1)];omega
   ·have d1:decide (p.2<= n')=false:=by simpa using hle
    have HF:=Lib.hid (finish (acc,(p.1,p.2-n')::ps) (by rw[HE.out,dR,if_neg hle];simp))
    rw[hlen]at j1;go_wp2_with fail
    go_ret
    obtain⟨hp4,s4⟩:=hpw.stored (S:=fun x=>x=m+2) rfl 1 (by simp;omega) (.int .i64 ((p.2:Int)- (n':Int)))
    have hb4:=hbw.keep s4 (by omega)
    have hr4:=hrw.keep s4 (by omega)
    have hv4:=hv.keep s4 (by omega)
    have hE:=HF.out;rw[HR.out]at hE;have hE1:(dR n q.pcs).2=(p.1,p.2-n')::ps:=by have:=congrArg (fun x=>x.1.pcs) hE;exact this
    have hE2:(dR n q.pcs).1=acc:=by have:=congrArg (fun x=>x.2) hE;exact this
    have e2:((p.2-n':Nat):Int)=(p.2:Int)- (n':Int):=by omega
    refine⟨_,rfl,t1,by rw[hE2];exact hv4,⟨.slice A' (q.b.length-n) c',.slice (some ⟨gp,off,none⟩) (ps.length+1) cp,hb4,by rw[List.length_drop,List.map_drop];exact hr4,?_⟩,SW.trans s4 fun x (h:x=m+2)=>(show m<= x/\ x<m+5 by omega)⟩
    rw[hE1];have:(lJ (p::ps)).set 1 (.int .i64 ((p.2:Int)- (n':Int)))=lJ ((p.1,p.2-n')::ps):=by
     rw[show lJ (p::ps)=nV p.1::nV p.2::lJ ps from rfl,show lJ ((p.1,p.2-n')::ps)=nV p.1::nV (p.2-n')::lJ ps from rfl]
     simp[e2]
    rw[this]at hp4;exact hp4
theorem EW (w:World) (t:Nat-> Nat) (m gn:Nat) (n:cu) (i:Nat) (x:NC) (p:Bs) (h:fP w t m gn n) (hx:n.aG[i]? = some x) (hT:mJ x=true) (hs:x.shut=false) (hp:p.length<= 1000000) (hp0:0<p.length) (hg:x.got.length<= 100000000)
 (hw:x.window<= 1099511627776) (hw0:0<x.window) (Ap:Option Addr) (cp:Nat) (hpc:p.length<= cp) (hrd:Rd w w.heap.size 1 Ap p.length (p.map bv)):
 Calls Tryz.prog 75 #[pV gn,nV i,.slice Ap p.length cp] w fun e w'=>e= .returned (.tuple #[nV (min p.length x.window),.int .i64 0])/\ ∃t',fP w' t' m gn (n.up i fun x=>jK x p)/\ Stp (Mk m 1000) w t w' t':=by
 obtain⟨A,vc,vq,h⟩:=h;have hAt:=BJ w t m gn n A vc vq h i x hx;rw[hT]at hAt;obtain⟨g0,hg0,vi,vg,vt,hk⟩:=h.k i x hx;obtain⟨Ag,cg,rfl,-,-,-,-⟩:=hk.g.form;have j5:w.cell? ⟨g0,5,none⟩=some (.bool false):=by rw[<- hs];exact hk.b.b.cell 5
 have j8:w.cell? ⟨g0,8,none⟩=some (nV x.window):=hk.b.b.cell 8;have j11:w.cell? ⟨g0,11,none⟩=some (.slice Ag x.got.length cg):=hk.b.b.cell 11;have d0:((p.length:Int)==0)=false:=beq_false_of_ne (by omega)
 have d1:((x.window:Int)==0)=false:=beq_false_of_ne (by omega)
 obtain⟨k,hk0⟩: ∃k,min p.length x.window=k:=⟨_,rfl⟩;have hkp:k<= p.length:=by omega
 have hmin:min (p.length:Int) (x.window:Int)=(k:Int):=by omega
 obtain⟨A',c',hc',hsl,yX⟩:=zo cp k hrd hkp hpc;have hkw:k<= x.window:=by omega
 have hk0':=Lib.hid hk0;clear hk0;go_enter Tryz.func75,Tryz.ntmps75
 go_wp2_with fail
 refine hAt.mono ?_;rintro e w1 ⟨⟨g,hg,he⟩,rfl⟩;obtain rfl:e= .returned (.tuple #[pV g,.int .i64 0]):=he;obtain rfl:g0=g:=by rw[hg0]at hg;exact Option.some.inj hg
 clear hAt;have hlen:(p.take k).length=k:=by rw[List.length_take];omega
 go_wp2_with (at_builtin;go_must (refine xw rfl _ _ 33 33 rfl 5 (.int .u8 0) 1 1 Tryz.underlying33 (.inl Tryz.underlying33) lT rfl t (m+10+5*i+2) (.slice Ag x.got.length cg) x.got.length (x.got.map bv) rfl hk.g _ k ((p.take k).map bv) rfl (Src.fB yX (uD _)) (by omega) ?_;intro v' w2 t2 hr2 hs2;obtain⟨A3,c3,rfl,-,-,-,-⟩:=hr2.form;have hb2:=hk.b.keep (hs2 (fun z=>z=m+10+5*i+2) rfl) (by omega);have j11':w2.cell? ⟨g0,11,none⟩=some (.slice Ag x.got.length cg):=hb2.b.cell 11;have i11':w2.frozen? ⟨g0,11,none⟩=false:=hb2.b.frozen 11;have j8':w2.cell? ⟨g0,8,none⟩=some (nV x.window):=hb2.b.cell 8;have i8':w2.frozen? ⟨g0,8,none⟩=false:=hb2.b.frozen 8))
 go_ret2
 obtain⟨b3,s3⟩:=hb2.aH 11 (.slice A3 (x.got.length+k) c3);obtain⟨b4,s4⟩:=b3.aH 8 (.int .i64 ((x.window:Int)- (k:Int)));have sA:=s3.trans s4 fun _ h=>h
 have ht:p.take x.window=p.take k:=by rw[<- hk0'.out,Nat.min_comm,<- List.take_take,List.take_length]
 have e1:((x.window-k:Nat):Int)=(x.window:Int)- (k:Int):=by omega
 refine⟨by rw[hk0'.out];rfl,h.fin (fun x=>jK x p) hx hg0 ((hs2 (Mk (m+10+5*i) 5) (by omega)).trans sA fun z (hz:z=m+10+5*i)=>(show m+10+5*i<= z/\ z<m+10+5*i+5 by omega)) ?_⟩
 have q1:=(hk.i.keep (hs2 (fun z=>z=m+10+5*i+2) rfl) (by omega)).keep sA (by omega)
 have q2:=(hk.t.keep (hs2 (fun z=>z=m+10+5*i+2) rfl) (by omega)).keep sA (by omega)
 have q3:=hr2.keep sA (by omega)
 show NcK _ t2 _ g0 (jK x p);rw[jK,ht,hlen];exact⟨vi,.slice A3 (x.got.length+k) c3,vt,b4.to (by simp[ncC,e1]),q1,by simp only[List.length_append,List.map_append,hlen];exact q3,q2⟩
theorem Nq (w:World) (t:Nat-> Nat) (m gn:Nat) (n:cu) (i:Nat) (x:NC) (k:Nat) (h:fP w t m gn n) (hx:n.aG[i]? = some x) (hT:mJ x=true) (hs:x.shut=false) (hp0:0<k) (hw0:x.window=0) (Ap:Option Addr) (cp:Nat):
 Calls Tryz.prog 75 #[pV gn,nV i,.slice Ap k cp] w fun e w'=>e= .returned (.tuple #[nV 0,.int .i64 4])/\ w=w':=by
 obtain⟨A,vc,vq,h⟩:=h;have hAt:=BJ w t m gn n A vc vq h i x hx;rw[hT]at hAt;obtain⟨g0,hg0,vi,vg,vt,hk⟩:=h.k i x hx;have j5:w.cell? ⟨g0,5,none⟩=some (.bool false):=by rw[<- hs];exact hk.b.b.cell 5
 have j8:w.cell? ⟨g0,8,none⟩=some (nV 0):=by rw[<- hw0];exact hk.b.b.cell 8
 have d0:((k:Int)==0)=false:=beq_false_of_ne (by omega)
 go_enter Tryz.func75,Tryz.ntmps75
 go_wp2_with fail
 refine hAt.mono ?_;rintro e w1 ⟨⟨g,hg,he⟩,rfl⟩;obtain rfl:e= .returned (.tuple #[pV g,.int .i64 0]):=he;obtain rfl:g0=g:=by rw[hg0]at hg;exact Option.some.inj hg
 clear hAt;go_wp2_with fail
 go_ret2
 exact⟨rfl,rfl⟩
theorem Ri (w:World) (t:Nat-> Nat) (m gn:Nat) (n:cu) (i:Nat) (x:NC) (h:fP w t m gn n) (hx:n.aG[i]? = some x) (ho:x.op=true) (hn1:1<= n.op) (hn2:n.op<= 1000000) (A2:Option Addr) (c2:Nat)
 (h2: ∃y o,A2=some ⟨y,o,none⟩/\ w.cell? ⟨y,o,none⟩=some (nV i)):
 Calls Tryz.prog 135 #[pV gn,.slice A2 1 c2] w fun e w'=>(∃v,e= .returned v)/\ ∃t',fP w' t' m gn { n.up i (fun x=> { x with op:=false })with op:=n.op-1 } /\ Stp (Mk m 1000) w t w' t':=by
 obtain⟨A,vc,vq,h⟩:=h;have hi:i<n.aG.length:=(List.getElem?_eq_some_iff.1 hx).1;have hsz:=h.s;have hAt:=yg w t m gn n A vc vq h i hi;obtain⟨y2,o2,rfl,hy2⟩:=h2;obtain⟨g0,hg0,vi,vg,vt,hk⟩:=h.k i x hx;have j1:w.cell? ⟨g0,1,none⟩=some (.bool true):=by rw[<- ho];exact hk.b.b.cell 1
 have i1:w.frozen? ⟨g0,1,none⟩=false:=hk.b.b.frozen 1;have j6:w.cell? ⟨gn,6,none⟩=some (nV n.op):=h.b.b.cell 6;have i6:w.frozen? ⟨gn,6,none⟩=false:=h.b.b.frozen 6;have e1:gn≠g0:=fun e=>by have:=h.b.m;rw[e,hk.b.m]at this;omega
 go_enter Tryz.func135,Tryz.ntmps135
 go_wp2_with fail
 go_loopw [5,11] (fun y z wr=>(z= .int .i64 0/\ y= .int .i64 0/\ w=wr)\/ (z= .int .i64 1/\ y= .int .i64 1/\ ∃t',fP wr t' m gn { n.up i (fun x=> { x with op:=false })with op:=n.op-1 } /\ Stp (Mk m 1000) w t wr t')) (fun _ z _=>1- (intOf z).toNat)
 case atStart=>exact .inl ⟨rfl,rfl,rfl⟩
 case round=>
  rcases hrel with⟨rfl,rfl,rfl⟩| ⟨rfl,rfl,hend⟩
  ·go_wp2_with fail
   refine hAt.mono ?_;rintro e w1 ⟨⟨g,hg,rfl⟩,rfl⟩;obtain rfl:g0=g:=by rw[hg0]at hg;exact Option.some.inj hg
   clear hAt;go_wp2_with fail
   go_roundw
   case rel=>
    obtain⟨b1,s1⟩:=hk.b.aH 1 (.bool false);obtain⟨q1,q2⟩:=hk.sets (y:= { x with op:=false }) b1 s1 (by simp[ncC]) rfl rfl rfl
    have hB:=h.up i x g0 (fun x=> { x with op:=false }) hx hg0 q2 (fun _ h=>h) q1
    obtain⟨b3,s3⟩:=hB.b.aH 6 (.int .i64 ((n.op:Int)-1));have e9:((n.op-1:Nat):Int)=(n.op:Int)-1:=by omega
    refine .inr ⟨rfl,rfl,t,⟨A,vc,vq,b3.to (by simp[cu.up,e9]),hB.c.keep s3 (by omega),hB.q.keep s3 (by omega),hB.l,fun j y hy=> ?_,hB.s⟩,(q2.mono fun z (hz:m+10+5*i<= z/\ z<m+10+5*i+5)=>(show m<= z/\ z<m+1000 by omega)).trans s3 fun z (hz:z=m)=>(show m<= z/\ z<m+1000 by omega)⟩
    obtain⟨g9,hg9,hk9⟩:=hB.k j y hy;exact⟨g9,hg9,hk9.keep s3 fun z hz=>by omega⟩
   case measure=>simp[intOf]
  ·go_wp2_with fail
   go_ret
   exact⟨⟨_,rfl⟩,hend⟩
theorem oW.own {w w':World} {t:Nat-> Nat} {m gn:Nat} {n n':cu} {A:List Nat} {vc vq:Value} {cs:Array Value} (h:oW w t m gn n A vc vq) (b:BT w' t m gn 106 cs) (s:Stp (fun z=>z=m) w t w' t)
 (hc:cs= #[nV n'.backlog,vc,vq,.bool n'.stopped,nV n'.fails,nV n'.marks,nV n'.op]) (h1:n'.aG=n.aG) (h2:n'.queue=n.queue):oW w' t m gn n' A vc vq:=
 ⟨b.to hc,by rw[h1];exact h.c.keep s (by omega),by rw[h2];exact h.q.keep s (by omega),by rw[h1];exact h.l,fun i x hx=>by
   rw[h1]at hx;obtain⟨g,hg,hk⟩:=h.k i x hx
   exact⟨g,hg,hk.keep s fun z hz=>by omega⟩,by rw[h1];exact h.s⟩
theorem yA {m:Nat} : ∀z,z=m-> Mk m 1000 z:=fun z hz=>(show m<= z/\ z<m+1000 by omega)
theorem yB (w:World) (t:Nat-> Nat) (m gn:Nat) (n:cu) (h:fP w t m gn n) (hs:n.stopped=false) (hq:0<n.queue.length) (hf:0<n.fails) (hf2:n.fails<= 1000000):
 Calls Tryz.prog 143 #[pV gn] w fun e w'=>e= .returned (.tuple #[.int .i64 0,.int .i64 0,.int .i64 7])/\ ∃t',fP w' t' m gn { n with fails:=n.fails-1 } /\ Stp (Mk m 1000) w t w' t':=by
 obtain⟨A,vc,vq,h⟩:=h;obtain⟨Aq,cq,rfl,-,-,-,-⟩:=h.q.form;have j2:w.cell? ⟨gn,2,none⟩=some (.slice Aq n.queue.length cq):=h.b.b.cell 2;have j3:w.cell? ⟨gn,3,none⟩=some (.bool false):=by rw[<- hs];exact h.b.b.cell 3
 have j4:w.cell? ⟨gn,4,none⟩=some (nV n.fails):=h.b.b.cell 4;have i4:w.frozen? ⟨gn,4,none⟩=false:=h.b.b.frozen 4;have d0:((n.queue.length:Int)==0)=false:=beq_false_of_ne (by omega)
 have d1:decide (0<n.fails)=true:=by simpa using hf
 go_enter Tryz.func143,Tryz.ntmps143
 go_wp2_with fail
 obtain⟨b1,s1⟩:=h.b.aH 4 (.int .i64 ((n.fails:Int)-1));have e1:((n.fails-1:Nat):Int)=(n.fails:Int)-1:=by omega
 refine bodyPost_ret (v:=.tuple #[.int .i64 0,.int .i64 0,.int .i64 7]) (by simp[results,Tryz.results143,go_sem]) rfl ⟨rfl,t,⟨A,vc,_,h.own (n':= { n with fails:=n.fails-1 }) b1 s1 (by simp[e1]) rfl rfl⟩,s1.mono yA⟩
theorem CO (w:World) (t:Nat-> Nat) (m gn:Nat) (n:cu) (c:Nat) (r:List Nat) (x:NC) (h:fP w t m gn n) (hs:n.stopped=false) (hq:n.queue=c::r) (hf:n.fails=0) (hx:n.aG[c]? = some x) (hop:n.op<= 1000000):
 Calls Tryz.prog 143 #[pV gn] w fun e w'=>e= .returned (.tuple #[nV c,nV x.peer,.int .i64 0])/\ ∃t',fP w' t' m gn { n.up c eH with queue:=r,op:=n.op+1 } /\ Stp (Mk m 1000) w t w' t':=by
 obtain⟨A,vc,vq,h⟩:=h;have hc:c<n.aG.length:=(List.getElem?_eq_some_iff.1 hx).1;have hsz:=h.s;have hq2:=h.q;rw[hq]at hq2;have hql:(c::r).length=r.length+1:=rfl;obtain⟨gq,off,cq,rfl,hgl,hm,hcell⟩:=hq2.at_ (by simp)
 obtain⟨gc,offc,cc,rfl,hglc,hmc,Xh⟩:=h.c.at_ (by omega)
 obtain⟨g0,hg0,vi,vg,vt,hk⟩:=h.k c x hx;have y0:w.cell? ⟨gq,off,none⟩=some (nV c):=(hcell 0 (by simp)).1
 have y1:w.cell? ⟨gc,offc+c,none⟩=some (pV g0):=by rw[(Xh c (by omega)).1,List.getElem?_map,hg0];rfl
 have j1:w.cell? ⟨gn,1,none⟩=some (.slice (some ⟨gc,offc,none⟩) n.aG.length cc):=h.b.b.cell 1;have j2:w.cell? ⟨gn,2,none⟩=some (.slice (some ⟨gq,off,none⟩) (r.length+1) cq):=by have:=h.b.b.cell 2;exact this
 have i2:w.frozen? ⟨gn,2,none⟩=false:=h.b.b.frozen 2;have j3:w.cell? ⟨gn,3,none⟩=some (.bool false):=by rw[<- hs];exact h.b.b.cell 3
 have j4:w.cell? ⟨gn,4,none⟩=some (nV 0):=by rw[<- hf];exact h.b.b.cell 4
 have j6:w.cell? ⟨gn,6,none⟩=some (nV n.op):=h.b.b.cell 6;have i6:w.frozen? ⟨gn,6,none⟩=false:=h.b.b.frozen 6;obtain⟨A2,c2,hs2,hr9⟩:=RT.iI (T:=34) (by kernel_rfl) (fun w=>by kernel_rfl) hq2 1 (by simp)
 rw[hql,Nat.add_sub_cancel]at hr9;rw[hql]at hs2;simp only[Nat.add_sub_cancel]at hs2;have hs3: ∀w:World,(Instr.sliceAt 34 (.slice (some ⟨gq,off,none⟩) (r.length+1) cq) (some (.int .i64 1)) none none).run Tryz.prog w= .ok (.slice A2 r.length c2) w:=hs2;clear hs2 hcell Xh;have e1:gn≠g0:=fun e=>by have:=h.b.m;rw[e,hk.b.m]at this;omega
 have e2:gn≠gc:=fun e=>by have:=h.b.m;rw[e,hmc]at this;omega
 have k0:w.cell? ⟨g0,0,none⟩=some (.bool x.waits):=hk.b.b.cell 0;have l0:w.frozen? ⟨g0,0,none⟩=false:=hk.b.b.frozen 0;have k1:w.cell? ⟨g0,1,none⟩=some (.bool x.op):=hk.b.b.cell 1;have l1:w.frozen? ⟨g0,1,none⟩=false:=hk.b.b.frozen 1;have k3:w.cell? ⟨g0,3,none⟩=some (nV x.peer):=hk.b.b.cell 3;have k6:w.cell? ⟨g0,6,none⟩=some (.bool x.taken):=hk.b.b.cell 6;have l6:w.frozen? ⟨g0,6,none⟩=false:=hk.b.b.frozen 6;have d2:(c:Int)< (n.aG.length:Int):=by omega
 go_enter Tryz.func143,Tryz.ntmps143
 go_wp2_with fail
 go_region
 all_goals
  go_wp2_with fail
  obtain⟨b1,s1⟩:=h.b.aH 2 (.slice A2 r.length c2)
  have hB:oW _ t m gn { n with queue:=r } A _ (.slice A2 r.length c2):=⟨b1.to (by simp),h.c.keep s1 (by omega),hr9.keep s1 (by omega),h.l,fun i y hy=>(by
   obtain⟨g,hg,hk⟩:=h.k i y hy
   exact⟨g,hg,hk.keep s1 fun z hz=>by omega⟩),h.s⟩
  obtain⟨g1,hg1,vi1,vg1,vt1,hk1⟩:=hB.k c x hx;obtain rfl:g0=g1:=by rw[hg0]at hg1;exact Option.some.inj hg1
  obtain⟨b2,s2⟩:=hk1.b.aH 0 (.bool false);obtain⟨b3,s3⟩:=b2.aH 1 (.bool true);obtain⟨b4,s4⟩:=b3.aH 6 (.bool true);obtain⟨q1,q2⟩:=hk1.sets (y:=eH x) b4 ((s2.trans s3 fun _ h=>h).trans s4 fun _ h=>h) (by simp[ncC,eH]) rfl rfl rfl
  have hU:=hB.up c x g0 eH hx hg0 q2 (fun _ h=>h) q1
  obtain⟨b5,s5⟩:=hU.b.aH 6 (.int .i64 ((n.op:Int)+1));have hF:=hU.own (n':= { n.up c eH with queue:=r,op:=n.op+1 }) b5 s5 (by simp[cu.up]) rfl rfl
  have sE:=((s1.mono yA).trans q2 fun z (hz:m+10+5*c<= z/\ z<m+10+5*c+5)=>(show m<= z/\ z<m+1000 by omega)).trans s5 yA
  refine bodyPost_ret (v:=.tuple #[nV c,nV x.peer,.int .i64 0]) (by simp[results,Tryz.results143,go_sem]) rfl ⟨rfl,?_⟩
  first
   |exact⟨t,⟨A,_,_,hF⟩,sE⟩
   |exact⟨t,⟨A,_,_,hF.drewN 1⟩,sE.drew⟩
def wS (w:World) (t:Nat-> Nat) (m g:Nat) (p:qM):Prop:= ∃v,BT w t m g 134 #[v,.int .i64 256,nV p.now,nV p.most]/\ RT w t (m+1) 4 1 v p.oP.length (p.oP.map Value.bool)
theorem wS.keep {S:Nat-> Prop} {w w':World} {t t':Nat-> Nat} {m g:Nat} {p:qM} (h:wS w t m g p) (st:Stp S w t w' t') (h0: ¬S m) (h1: ¬S (m+1)):wS w' t' m g p:=by
 obtain⟨v,a,b⟩:=h;exact⟨v,a.keep st h0,b.keep st h1⟩
theorem JW (w:World) (t:Nat-> Nat) (m g:Nat) (p:qM) (h:wS w t m g p):
 Calls Tryz.prog 26 #[.pointer (some ⟨g,0,none⟩)] w fun e w'=>e= .returned (.tuple #[nV p.now,nV p.most])/\ ∃q,w'=w.drewN q:=by
 obtain⟨v,hb,-⟩:=h;obtain⟨j0,j1,j2,j3,-,-,-,-⟩:=hb.b.c4;go_enter Tryz.func26,Tryz.ntmps26
 go_wp2_with fail
 go_quiet (fail)
 go_wp2_with fail
 go_ret2
 exact⟨rfl,_,rfl⟩
theorem JX (l:List Bool) (k:Nat) (h:k<l.findIdx fun x=> !x):l[k]? = some true:=by
 have hk:k<l.length:=Nat.lt_of_lt_of_le h (List.findIdx_le_length);rw[List.getElem?_eq_getElem hk];have:=List.not_of_lt_findIdx h;simpa using this
theorem Nr (l:List Bool) (h:(l.findIdx fun x=> !x)<l.length):l[l.findIdx fun x=> !x]? = some false:=by
 have:=List.findIdx_getElem (w:=h);rw[List.getElem?_eq_getElem h];simpa using this
theorem Zh (w:World) (t:Nat-> Nat) (m g mr:Nat) (p:qM) (h:wS w t m g p) (hf:AX p<p.oP.length) (hn:p.now<= 100000) (hl:p.oP.length<= 5000) (_hmr:m+1<mr\/ mr+1<m):
 Calls Tryz.prog 189 #[.pointer (some ⟨g,0,none⟩)] w fun e w'=> ∃gr t',e= .returned (.tuple #[nV (jS p).2,.pointer (some ⟨gr,0,none⟩),.int .i64 0])/\ w.heap.size<= gr/\ jo w' t' mr gr []/\ wS w' t' m g (jS p).1/\ Stp (Mk m 2) w t w' t':=by
 have hNew:=fun w t=>YQ w t mr
 obtain⟨v,hb,hr⟩:=h;obtain⟨j0,j1,j2,j3,-,-,-,-⟩:=hb.b.c4;obtain⟨gr,off,c,rfl,hgl,hm,hcell⟩:=hr.at_ (by omega)
 have hu:=JX p.oP;have hnf:=Nr p.oP hf;obtain⟨f,hpf⟩: ∃f,AX p=f:=⟨_,rfl⟩;rw[show(p.oP.findIdx fun x=> !x)=f from hpf]at hu hnf
 rw[hpf]at hf;go_enter Tryz.func189,Tryz.ntmps189
 go_wp2_with fail
 go_loopw [16] (fun i wr=> ∃k:Nat,i= .int .i64 k/\ k<= f/\ w=wr) (fun i _=>f+1- (intOf i).toNat)
 case atStart=>exact⟨0,rfl,Nat.zero_le _,rfl⟩
 case round=>
  obtain⟨k,rfl,hk,rfl⟩:=hrel;have hkl:(k:Int)< (p.oP.length:Int):=by omega
  by_cases hlt:k<f
  ·have hx:w.cell? ⟨gr,off+k,none⟩=some (.bool true):=by rw[(hcell k (by omega)).1,List.getElem?_map,hu k hlt];rfl
   clear hcell hu hnf;go_wp2_with fail
   go_roundw
   case rel=>exact⟨k+1,by go_num,hlt,trivial⟩
   case measure=>simp[intOf];omega
  ·obtain rfl:k=f:=by omega
   have hx:w.cell? ⟨gr,off+k,none⟩=some (.bool false):=by rw[(hcell k (by omega)).1,List.getElem?_map,hnf];rfl
   clear hcell hu hnf;go_wp2_with fail
   refine(hNew w t).mono ?_;rintro e w1 ⟨g1,t1,rfl,hg1,hR1,S1⟩;have hb1:=hb.keep S1 id;have hr1:=hr.keep S1 id;obtain⟨k0,k1,k2,k3,z0,z1,z2,z3⟩:=hb1.b.c4;have zx:w1.frozen? ⟨gr,off+k,none⟩=false:=(RT.VQ hr1 k (by omega)).2
   have yx:=(RT.VQ hr1 k (by omega)).1
   have e1:gr≠g:=fun e=>by have:=hb.m;rw[<- e,hm]at this;omega
   clear j0 j1 j2 j3 hx;go_wp2_with fail
   go_region
   go_wp2_with fail
   have HG:=Lib.hid (show jS p=({ oP:=p.oP.set k true,now:=p.now+1,most:=max p.most (p.now+1) },k) by rw[jS,hpf])
   obtain⟨hr2,s2⟩:=hr1.stored (S:=fun x=>x=m+1) rfl k (by omega) (.bool true)
   have hb2:=hb1.keep s2 (by omega)
   obtain⟨hb3,s3⟩:=hb2.aH 2 (.int .i64 ((p.now:Int)+1));obtain⟨hb4,s4⟩:=hb3.aH 3 (.int .i64 (max (p.most:Int) ((p.now:Int)+1)));have sA:=s3.trans s4 fun _ h=>h
   have hr4:=hr2.keep sA (by omega)
   have e1:((max p.most (p.now+1):Nat):Int)=max (p.most:Int) ((p.now:Int)+1):=by omega
   have sE:Stp (Mk m 2) w t _ t1:=((S1.mono (S':=Mk m 2) fun _ h=>h.elim).trans s2 fun x (h:x=m+1)=>(show m<= x/\ x<m+2 by omega)).trans sA fun x (h:x=m)=>(show m<= x/\ x<m+2 by omega)
   have hR4:=(hR1.keep s2 (by omega) (by omega)).keep sA (by omega) (by omega)
   refine bodyPost_ret (v:=.tuple #[nV k,.pointer (some ⟨g1,0,none⟩),.int .i64 0]) (by simp[results,Tryz.results189,go_sem]) rfl ⟨g1,t1,by rw[HG.out],hg1,?_,?_,sE.drew⟩
   ·obtain⟨v9,f9,u9,r9⟩:=hR4
    exact⟨v9,f9,u9,r9.1.drew,r9.2.1.drew,r9.2.2⟩
   ·rw[HG.out]
    exact⟨.slice (some ⟨gr,off,none⟩) p.oP.length c,(hb4.to (by simp[e1])).drew,by rw[List.length_set,List.map_set];exact hr4.drew⟩
theorem Zi (w:World) (t:Nat-> Nat) (m n:Nat) (hn:n<= 4096):
 Calls Tryz.prog 64 #[nV n,.int .i64 256] w fun e w'=> ∃g t',e= .returned (.tuple #[.pointer (some ⟨g,0,none⟩),.int .i64 0])/\ w.heap.size<= g/\ wS w' t' m g ⟨List.replicate n false,0,0⟩/\ Stp (fun _=>False) w t w' t':=by
 obtain⟨i0,hi,hz0,hz1,hz2⟩:=info_parts (show(Tryz.prog.info? 4).map (fun i=>(i.zero,i.size,i.bytes))=some (some (.bool false),1,1) by kernel_rfl)
 have d1:decide (4096<n)=false:=by simp;omega
 go_enter Tryz.func64,Tryz.ntmps64
 go_wp2_with (at_make;refine wpList_make_full _ rfl _ _ 132 rfl w.heap.size 4 i0 (.bool false) 1 Tryz.underlying132 hi hz0 hz1 .i64 .i64 _ _ n rfl rfl rfl rfl (by rw[hz2];omega) (by unfold maxLen;omega) (Nat.le_refl _) ?_;intro w1 hown hg)
 have ho:Own w1 w.heap.size 4 1 (.slice (some ⟨w.heap.size,0,none⟩) n n) n ((List.replicate n false).map Value.bool):=by
  have:=Own.of hown;rw[show(Value.bool false).cells= #[Value.bool false]from rfl,Nat.mul_one,toList_madeCells_one]at this
  rw[List.map_replicate];exact this
 have hb1:Below w.heap.size w w1:=(Below.refl _ _).grown hg (Nat.le_refl _) (by simp)
 have hr:=RT.Ik ho t (m+1);have s1:Stp (fun _=>False) w t w1 (upT t w (m+1)):=⟨(Fr.dB hb1).mono fun i hi=>.inr hi,fun _ hk=>iq hk⟩
 have s2:=fun o=>Stp.alloc w1 (upT t w (m+1)) (fun _=>False) o m
 go_ret2
 exact⟨w1.heap.size,upT (upT t w (m+1)) w1 m,rfl,hb1.size,⟨_,BT.new _ _ _ _ _,by rw[List.length_replicate];exact hr.keep (s2 _) id⟩,s1.trans (s2 _) fun _ h=>h⟩
end Go.Proofs.YtdmondfpepbniaaGreatDoor
