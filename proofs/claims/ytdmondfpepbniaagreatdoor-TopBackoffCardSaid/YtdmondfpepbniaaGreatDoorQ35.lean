/- Part 35 of the proof: VmB VhE VhK VhG VnG. -/
import Derived.Test.YtdmondfpepbniaaGreatDoorQ30
import Derived.Test.YtdmondfpepbniaaGreatDoorQ33
import Derived.Test.YtdmondfpepbniaaGreatDoorQ34
namespace Go.Proofs.YtdmondfpepbniaaGreatDoor
open Go.RowKit
set_option maxRecDepth 100000
set_option maxHeartbeats 4000000
set_option linter.all false
section
variable (w:World) (t:Nat-> Nat) (cf:Cf) (tv:Value) (gs i gl gc:Nat) (x:ClS) (g:Nat) (s:SrS) (P:SrP) (L:CL)
theorem wW (h:Dz w t cf tv gs (i,(gl,gc,x))):
 Calls Tryz.prog 71 #[pV gl] w fun e w'=>e= .returned (.bool x.over)/\ ∃q,w'=w.drewN q:=by
 have hP:=QZ w t _ gc cf tv gs x.c h.c;have j0:w.cell? ⟨gl,0,none⟩=some (pV gc):=h.b.b.cell 0
 have hS:=Lib.hid (show x.over=((x.c.phase:Int)==5) by
  rw[ClS.over];cases hd:decide (x.c.phase=5)with
  |true=>have:=of_decide_eq_true hd;rw[this];rfl
  |false=>have:=of_decide_eq_false hd;symm;rw[beq_eq_false_iff_ne];omega)
 clear h;go_enter Tryz.func71,Tryz.ntmps71
 go_wp2_with fail
 refine hP.mono ?_;rintro e w1 ⟨rfl,q,rfl⟩;go_wp2_with fail
 go_ret
 exact⟨by rw[hS.out];rfl,q,rfl⟩
theorem E8 (h:Dz w t cf tv gs (i,(gl,gc,x))) (hpc:x.c.q.pcs.length<= 100000) (hq:x.c.ended=false-> x.c.ending=false-> x.c.ring.length<256/\ x.c.q.pcs.length<cf.pipe):
 Calls Tryz.prog 81 #[pV gl] w fun e w'=>e= .returned (.bool (lZ cf x.c))/\ Below w.heap.size w w':=by
 have hP:=EX w t _ gc cf tv gs x.c h.c hpc hq;have j0:w.cell? ⟨gl,0,none⟩=some (pV gc):=h.b.b.cell 0;clear h;go_enter Tryz.func81,Tryz.ntmps81
 go_wp2_with fail
 refine hP.mono ?_;rintro e w1 ⟨rfl,L1⟩;go_wp2_with fail
 go_ret
 exact⟨rfl,L1⟩
theorem CP (h:Dz w t cf tv gs (i,(gl,gc,x))) (hpc:x.c.q.pcs.length<= 100000) (hq:x.c.ended=false-> x.c.ending=false-> x.c.ring.length<256/\ x.c.q.pcs.length<cf.pipe):
 Calls Tryz.prog 82 #[pV gl] w fun e w'=>e= .returned (.bool (jU x.c))/\ Below w.heap.size w w':=by
 have hP:=EX w t _ gc cf tv gs x.c h.c hpc hq;have j0:w.cell? ⟨gl,0,none⟩=some (pV gc):=h.b.b.cell 0;clear h;go_enter Tryz.func82,Tryz.ntmps82
 go_wp2_with fail
 refine hP.mono ?_;rintro e w1 ⟨rfl,L1⟩;go_wp2_with fail
 go_ret
 exact⟨rfl,L1⟩
theorem J4 (h:aZ w t g s P L):
 Calls Tryz.prog 46 #[pV g] w fun e w'=>e= .returned (.bool (kP s))/\ ∃q,w'=w.drewN q:=by
 have hP:=JW w t _ P.gr s.pool h.pool;have j0:w.cell? ⟨g,20,none⟩=some (pV P.gr):=h.b.b.cell 20;have j4:w.cell? ⟨g,4,none⟩=some (nV s.cf.jg):=h.b.b.cell 4;clear h;go_enter Tryz.func46,Tryz.ntmps46
 go_wp2_with fail
 refine hP.mono ?_;rintro e w1 ⟨rfl,q,rfl⟩;go_wp2_with fail
 go_ret
 exact⟨rfl,q,rfl⟩
theorem Xk (now:Nat) (h:aZ w t g s P L):
 Calls Tryz.prog 39 #[pV g,nV now] w fun e w'=>e= .returned (nV (uT s now))/\ ∃q,w'=w.drewN q:=by
 have hP:=Zg w t _ P.gw s.wh h.lD;have j0:w.cell? ⟨g,19,none⟩=some (pV P.gw):=h.b.b.cell 19;have hS:=Lib.hid (show nV (uT s now)= .int .i64 (min (max (now:Int) (s.wh.now:Int)) 1099511627776) by rw[uT,nV];congr 1;simp only[ticks];omega)
 clear h;go_enter Tryz.func39,Tryz.ntmps39
 go_wp2_with fail
 refine hP.mono ?_;rintro e w1 ⟨rfl,q,rfl⟩;go_wp2_with fail
 go_ret
 exact⟨by rw[hS.out];rfl,q,rfl⟩
end
theorem Xl (w:World) (t:Nat-> Nat) (m g:Nat) (cf:Cf) (tv:Value) (gs:Nat) (c:CnS) (x:RsP) (head:Bool) (minor:Int) (fin:Bool) (h:dK w t m g cf tv gs c) (hg:GL w t) (hm:10<= m) (hR:RsR w x) (hZ:RsZ x)
 (hL:dh x.r=true-> Light x.r) (hok:(encR x.r head minor fin).2=0) (hl:(encR x.r head minor fin).1.length<= 1000000) (hq:c.q.b.length<= 1000000) (hp:c.q.pcs.length<= 1000000) (hla:c.q.last<= 1000000) (hld:c.laid<= 1000000):
 Calls Tryz.prog 185 #[pV g,rsW x,.bool head,.int .i64 minor,.bool fin] w fun e w'=>e= .returned (.tuple #[])/\ ∃t',dK w' t' m g cf tv gs (o7 c x.r head minor fin)/\ Stp (Mk m 20) w t w' t':=by
 have hS:=Lib.hid (show o7 c x.r head minor fin= { c with q:=oO c.q (encR x.r head minor fin).1,laid:=c.laid+1,ending:=c.ending||fin } by rw[o7,if_pos hok])
 have hE:=fun W (L:Below w.heap.size w W)=>Cm x head minor fin W (hR.ah L) hZ (hg.keep (Stp.below L (fun _=>False) t) id).tz (hg.keep (Stp.below L (fun _=>False) t) id).tb hL
 obtain⟨E,hEe⟩: ∃E,E=encR x.r head minor fin:=⟨_,rfl⟩;rw[<- hEe]at hS hE hok hl;clear hEe;obtain⟨b,k⟩:=E;simp only at hS hE hok hl;subst hok;obtain⟨gq,gr,gp,bw,h⟩:=h;obtain⟨r,Af,cf',Ab,cb,Ap,cp⟩:=x;go_enter Tryz.func185,Tryz.ntmps185
 go_upto_region 1 with(fail)
 have s0:=Stp.alloc w t (fun _=>False) (.cells #[.int .i64 r.st,.slice Af r.f.length cf',.slice Ab r.b.length cb,.slice Ap r.p.length cp] 54) 9
 have LV:=aj (Below.refl w.heap.size w) (.cells #[.int .i64 r.st,.slice Af r.f.length cf',.slice Ab r.b.length cb,.slice Ap r.p.length cp] 54);have BV:=BT.new' w t 9 w.heap.size rfl 54 #[.int .i64 r.st,.slice Af r.f.length cf',.slice Ab r.b.length cb,.slice Ap r.p.length cp];obtain⟨V,hV⟩: ∃V,V=w.alloc (.cells #[.int .i64 r.st,.slice Af r.f.length cf',.slice Ab r.b.length cb,.slice Ap r.p.length cp] 54):=⟨_,rfl⟩;rw[<- hV]at s0 LV BV⊢;clear hV;generalize upT t w 9=t1 at*;obtain⟨r0,r1,r2,r3,-,-,-,-⟩:=BV.b.c4;have hEV:=hE V LV;clear hE;go_wp2_with fail
 refine hEV.mono ?_;rintro e W ⟨A,cB,rfl,hcB,hO,L2⟩;have s2:=s0.trans (Stp.below L2 (fun _=>False) t1) fun _ h=>h
 have h2:=h.keep s2 fun _ _ h=>h
 obtain⟨-,-,hrd⟩:=hO.rdS;clear r0 r1 r2 r3 hEV BV LV L2 s0 hO h;have j0:W.cell? ⟨g,0,none⟩=some (pV gq):=h2.b.b.cell 0;go_upto_region 3 with(fail)
 have zB:=Stp.alloc W t1 (fun _=>False) (.cells #[.slice A b.length cB] 33) 9
 have bB:=BT.new' W t1 9 W.heap.size rfl 33 #[.slice A b.length cB];have h3:=h2.keep zB fun _ _ h=>h
 have hA:=YW (W.alloc (.cells #[.slice A b.length cB] 33)) (upT t1 W 9) (m+1) gq c.q b h3.q (some ⟨W.heap.size,0,none⟩) 1 A cB hl hq hp hla ⟨W.heap.size,0,rfl,bB.b.cell 0⟩ ((hrd.ah (Nat.le_refl _) (aj (Below.refl W.heap.size W) _)).more (by simp))
 go_wp2_with fail
 refine hA.mono ?_;rintro e w3 ⟨rfl,t3,hq3,s3⟩;have hb3:=h3.b.keep s3 (by omega)
 have hr3:=h3.r.keep s3 (by omega) (by omega)
 have hp3:=h3.p.keep s3 (by omega)
 have hw3:=h3.w.keep s3 (by omega)
 have h4:pW w3 t3 m g cf tv gs { c with q:=oO c.q b } gq gr gp bw:=⟨hb3,hq3,hr3,hp3,hw3⟩
 have sC:=((s2.trans zB fun _ h=>h).mono (S':=Mk m 20) fun _ h=>h.elim).trans s3 fun y (h:Mk (m+1) 3 y)=>(show Mk m 20 y by omega)
 clear hA h2 h3 zB bB s3 hb3 hq3 hr3 hp3 hw3 s2 hrd j0;have j16:w3.cell? ⟨g,31,none⟩=some (nV c.laid):=h4.b.b.cell 31;have f16:w3.frozen? ⟨g,31,none⟩=false:=h4.b.b.frozen 31;obtain⟨h5,z5⟩:=h4.set 31 (.int .i64 ((c.laid:Int)+1)) { c with q:=oO c.q b,laid:=c.laid+1 } rfl rfl rfl rfl rfl;have j10:(w3.setCell ⟨g,31,none⟩ (.int .i64 ((c.laid:Int)+1))).cell? ⟨g,25,none⟩=some (.bool c.ending):=h5.b.b.cell 25;have f10:(w3.setCell ⟨g,31,none⟩ (.int .i64 ((c.laid:Int)+1))).frozen? ⟨g,25,none⟩=false:=h5.b.b.frozen 25;obtain⟨h6,z6⟩:=h5.set 25 (.bool (c.ending||fin)) { c with q:=oO c.q b,laid:=c.laid+1,ending:=c.ending||fin } rfl rfl rfl rfl rfl;have z:=(sC.trans (z5.mono fun y (h:y=m)=>(show Mk m 20 y by omega)) fun _ h=>h).trans (z6.mono fun y (h:y=m)=>(show Mk m 20 y by omega)) fun _ h=>h
 have hX:dK ((w3.setCell ⟨g,31,none⟩ (.int .i64 ((c.laid:Int)+1))).setCell ⟨g,25,none⟩ (.bool (c.ending||fin))) t3 m g cf tv gs (o7 c r head minor fin):=by rw[hS.out];exact⟨gq,gr,gp,bw,h6⟩
 clear hS h4 h5 h6 sC z5 z6;have hwr:IntKind.i64.wrap ((c.laid:Int)+1)=(c.laid:Int)+1:=IntWalk.i64_in _ (by omega)
 cases hce:c.ending
 ·rw[hce]at hX z j10
  go_wp2_with fail
  go_end0
  exact⟨rfl,t3,hX,z⟩
 ·rw[hce]at hX z j10
  go_wp2_with fail
  go_end0
  exact⟨rfl,t3,hX,z⟩
theorem Xm (c:CnS) (r:Rs) (head:Bool) (minor:Int) (fin:Bool):(o7 c r head minor fin).dO=c.dO:=by
 unfold o7;split<;>rfl
section
variable (w:World) (t:Nat-> Nat) (m g:Nat) (cf:Cf) (tv:Value) (gs:Nat) (c:CnS) (tab:List En) (ms:Nat)
theorem Rt (h:dK w t m g cf tv gs c) (hok:Nl cf c) (hf:lY cf c=false) (he:c.ending=true):
 Calls Tryz.prog 197 #[pV g] w fun e w'=>e= .returned (.bool false)/\ ∃t',dK w' t' m g cf tv gs c/\ Stp (Mk m 20) w t w' t':=by
 have hF:=tq w t m g cf tv gs c h (by have:=hok.qp;omega) hok.pp
 rw[hf]at hF;go_enter Tryz.func197,Tryz.ntmps197
 go_wp2_with fail
 refine hF.mono ?_;rintro e w1 ⟨rfl,L1⟩;have s1:=Stp.below L1 (Mk m 20) t;have h1:=h.keep (Stp.below L1 (fun _=>False) t) fun _ _ h=>h
 have j25:w1.cell? ⟨g,25,none⟩=some (.bool c.ending):=by obtain⟨gq,gr,gp,bw,h1⟩:=h1;exact h1.b.b.cell 25
 rw[he]at j25;clear hF h L1;go_wp2_with fail
 go_ret
 exact⟨rfl,t,h1,s1⟩
theorem Ru (h:dK w t m g cf tv gs c) (hok:Nl cf c) (hf:lY cf c=false) (he:c.ending=false) (hp:c.p.phase<3) (hw:BD c.p=false):
 Calls Tryz.prog 197 #[pV g] w fun e w'=>e= .returned (.bool false)/\ ∃t',dK w' t' m g cf tv gs c/\ Stp (Mk m 20) w t w' t':=by
 have hF:=tq w t m g cf tv gs c h (by have:=hok.qp;omega) hok.pp
 rw[hf]at hF;have p3:((c.p.phase:Int)==3)=false:=beq_false_of_ne (by omega)
 have p4:((c.p.phase:Int)==4)=false:=beq_false_of_ne (by omega)
 go_enter Tryz.func197,Tryz.ntmps197
 go_wp2_with fail
 refine hF.mono ?_;rintro e w1 ⟨rfl,L1⟩;have s1:=Stp.below L1 (fun _=>False) t
 have h1:=h.keep (Stp.below L1 (fun _=>False) t) fun _ _ h=>h
 clear hF h L1;have hN:=h1;obtain⟨gq,gr,gp,bw,h1⟩:=h1;have j25:w1.cell? ⟨g,25,none⟩=some (.bool c.ending):=h1.b.b.cell 25;have j19:w1.cell? ⟨g,19,none⟩=some (pV gp):=h1.b.b.cell 19;have hP:=nY w1 t (m+12) gp c.p h1.p;have hW:=QL w1 t (m+12) gp c.p h1.p;rw[he]at j25;rw[hw]at hW;clear h1 hp hw;go_wp2_with fail
 refine hP.mono ?_;rintro e w2 ⟨rfl,rfl⟩;go_wp2_with fail
 refine hP.mono ?_;rintro e w2 ⟨rfl,rfl⟩;go_wp2_with fail
 refine hW.mono ?_;rintro e w2 ⟨rfl,L2⟩;have s2:=Stp.below L2 (fun _=>False) t
 go_wp2_with fail
 go_ret
 exact⟨rfl,t,hN.keep s2 fun _ _ h=>h,(s1.trans s2 fun _ h=>h).mono fun _ h=>h.elim⟩
theorem Rw (hg:GL w t) (hm:10<= m) (hms: ∀y,Mk ms 10 y-> ¬Mk m 20 y) (h:dK w t m g cf tv gs c) (hs:yw w t ms gs tab) (hok:Nl cf c) (hf:lY cf c=false) (he:c.ending=false) (hp:c.p.phase=3)
 (R:RQ) (hR:wE c.p=R) (r0:R.m=mP) (r1:R.t.form=1) (r2:R.t.path=aX) (r3:R.c=false):
 Calls Tryz.prog 197 #[pV g] w fun e w'=>e= .returned (.bool true)/\ ∃t',dK w' t' m g cf tv gs (o7 { c with p:=p0,taken:=c.taken+1,word:=false } stR false R.v c.dO)/\ Stp (Mk m 20) w t w' t':=by
 have hF:=tq w t m g cf tv gs c h (by have:=hok.qp;omega) hok.pp
 rw[hf]at hF;go_enter Tryz.func197,Tryz.ntmps197
 go_wp2_with fail
 refine hF.mono ?_;rintro e w1 ⟨rfl,L1⟩;have s1:=Stp.below L1 (fun _=>False) t
 obtain⟨gq,gr,gp,bw,h1⟩:=h;have h1:=h1.keep s1 fun _ _ h=>h
 have hg1:=hg.keep s1 id;have hs1:=hs.keep s1 fun _ _ h=>h
 clear hF L1 hg hs;have j25:w1.cell? ⟨g,25,none⟩=some (.bool c.ending):=h1.b.b.cell 25;have j19:w1.cell? ⟨g,19,none⟩=some (pV gp):=h1.b.b.cell 19;have hP:=nY w1 t (m+12) gp c.p h1.p;have hT:=WB w1 t (m+12) gp c.p h1.p hg1.ml hp;rw[he]at j25;rw[hp]at hP;rw[hR]at hT;go_wp2_with fail
 refine hP.mono ?_;rintro e w2 ⟨rfl,rfl⟩;go_wp2_with fail
 refine hT.mono ?_;rintro e w2 ⟨AF,cF,AB,cB,rfl,hRR,t2,hp2,s2⟩;clear hP hT j25 j19;obtain⟨M,⟨fo,ho,pa,qu⟩,v',F,B,rc,re⟩:=R;simp only at r0 r1 r2 r3;subst r0 r1 r2 r3;unfold rqV MH;simp only;have b2:=h1.b.keep s2 (by omega)
 have q2:=h1.q.keep s2 (by omega) (by omega) (by omega)
 have r2:=h1.r.keep s2 (by omega) (by omega)
 have m2:=h1.w.keep s2 (by omega)
 have h2:pW w2 t2 m g cf tv gs { c with p:=p0 } gq gr gp bw:=⟨b2,q2,r2,hp2,m2⟩
 have hg2:=hg1.keep s2 (by omega)
 have hs2:=hs1.keep s2 fun y hy hz=>hms y hy (by omega)
 have sA:=(s1.mono (S':=Mk m 20) fun _ h=>h.elim).trans s2 fun y (h:y=m+12)=>(show Mk m 20 y by omega)
 clear b2 q2 r2 m2 hp2 h1 hg1 hs1 s1 s2;go_upto_region 8 with(fail)
 have zV:=Stp.alloc w2 t2 (fun _=>False) (.cells #[sv mP,.int .i64 1,sv ho,sv aX,sv qu,.int .i64 v',.slice AF F.length cF,.slice AB B.length cB,.bool false,.bool re] 316) 9
 have bQ:=BT.new' w2 t2 9 w2.heap.size rfl 316 #[sv mP,.int .i64 1,sv ho,sv aX,sv qu,.int .i64 v',.slice AF F.length cF,.slice AB B.length cB,.bool false,.bool re];obtain⟨V,hV⟩: ∃V,V=w2.alloc (.cells #[sv mP,.int .i64 1,sv ho,sv aX,sv qu,.int .i64 v',.slice AF F.length cF,.slice AB B.length cB,.bool false,.bool re] 316):=⟨_,rfl⟩;obtain⟨q,hq⟩: ∃q,q=w2.heap.size:=⟨_,rfl⟩;rw[<- hV]at zV bQ⊢;rw[<- hq]at bQ⊢;clear hV hq;generalize upT t2 w2 9=tV at*;have hV:=h2.keep zV fun _ _ h=>h
 have hgV:=hg2.keep zV id;have hsV:=hs2.keep zV fun _ _ h=>h
 have sB:=sA.trans zV fun _ h=>h.elim
 clear h2 hg2 hs2 sA zV;have j30:V.cell? ⟨g,30,none⟩=some (nV c.taken):=hV.b.b.cell 30;have f30:V.frozen? ⟨g,30,none⟩=false:=hV.b.b.frozen 30;have htk:=hok.tk;have hw1:IntKind.i64.wrap ((c.taken:Int)+1)=(c.taken:Int)+1:=IntWalk.i64_in _ (by omega)
 obtain⟨h3,z3⟩:=hV.set 30 (.int .i64 ((c.taken:Int)+1)) { c with p:=p0,taken:=c.taken+1 } rfl rfl rfl rfl rfl;have f28:(V.setCell ⟨g,30,none⟩ (.int .i64 ((c.taken:Int)+1))).frozen? ⟨g,28,none⟩=false:=h3.b.b.frozen 28;have j28:(V.setCell ⟨g,30,none⟩ (.int .i64 ((c.taken:Int)+1))).cell? ⟨g,28,none⟩=some (.bool c.word):=h3.b.b.cell 28;obtain⟨h4,z4⟩:=h3.set 28 (.bool false) { c with p:=p0,taken:=c.taken+1,word:=false } rfl rfl rfl rfl rfl;have z34:=z3.trans z4 fun _ h=>h
 have hg4:=hgV.keep z34 (by omega)
 have hs4:=hsV.keep z34 fun y hy hz=>hms y hy (by omega)
 have b4:=bQ.keep z34 (by omega)
 have sC:=sB.trans z34 fun y (h:y=m)=>(show Mk m 20 y by omega)
 clear hV hgV hsV bQ z3 z4 z34 sB htk h3;go_upto_region 10 with(fail)
 obtain⟨U,hU⟩: ∃U,U=(V.setCell ⟨g,30,none⟩ (.int .i64 ((c.taken:Int)+1))).setCell ⟨g,28,none⟩ (.bool false):=⟨_,rfl⟩;rw[<- hU]at h4 hg4 hs4 b4 sC⊢;clear hU f28 j28 f30 j30 hw1;have zd:=(Stp.refl (fun _=>False) U tV).drew
 have hSv:=QY U.drew tV ms gs tab ⟨mP,⟨1,ho,aX,qu⟩,v',F,B,false,re⟩ AF cF AB cB (hs4.keep zd fun _ _ h=>h) rfl rfl rfl
 unfold rqV MH at hSv;simp only at hSv;have hI: ∀W tW c' gq gr gp bw,BT W tW 9 q 316 #[sv mP,.int .i64 1,sv ho,sv aX,sv qu,.int .i64 v',.slice AF F.length cF,.slice AB B.length cB,.bool false,.bool re]-> BT W tW m g 131 (uV cf tv gq gs gr gp bw c')-> c'.dO=c.dO-> W.cell? ⟨q,0,none⟩=some (sv mP)/\ W.cell? ⟨q,1,none⟩=some (.int .i64 1)/\ W.cell? ⟨q,2,none⟩=some (sv ho)/\ W.cell? ⟨q,3,none⟩=some (sv aX)/\ W.cell? ⟨q,4,none⟩=some (sv qu)/\ W.cell? ⟨q,5,none⟩=some (.int .i64 v')/\ W.cell? ⟨q,6,none⟩=some (.slice AF F.length cF)/\ W.cell? ⟨q,7,none⟩=some (.slice AB B.length cB)/\ W.cell? ⟨q,8,none⟩=some (.bool false)/\ W.cell? ⟨q,9,none⟩=some (.bool re)/\ W.cell? ⟨g,17,none⟩=some (pV gs)/\ W.cell? ⟨g,24,none⟩=some (.bool c.dO):=fun W tW c' _ _ _ _ b1 b2 e=>⟨b1.b.cell 0,b1.b.cell 1,b1.b.cell 2,b1.b.cell 3,b1.b.cell 4,b1.b.cell 5,b1.b.cell 6,b1.b.cell 7,b1.b.cell 8,b1.b.cell 9,b2.b.cell 17,by rw[<- e];exact b2.b.cell 24⟩
 have S0:=hI _ _ _ _ _ _ _ b4 h4.b rfl;have Sd:=hI _ _ _ _ _ _ _ (b4.keep zd id) (h4.b.keep zd id) rfl;have hhd:(mP== [72,69,65,68])=false:=by decide
 clear hRR;go_region_held3 (fun W=>W.cell? ⟨q,0,none⟩=some (sv mP)/\ W.cell? ⟨q,1,none⟩=some (.int .i64 1)/\ W.cell? ⟨q,2,none⟩=some (sv ho)/\ W.cell? ⟨q,3,none⟩=some (sv aX)/\ W.cell? ⟨q,4,none⟩=some (sv qu)/\ W.cell? ⟨q,5,none⟩=some (.int .i64 v')/\ W.cell? ⟨q,6,none⟩=some (.slice AF F.length cF)/\ W.cell? ⟨q,7,none⟩=some (.slice AB B.length cB)/\ W.cell? ⟨q,8,none⟩=some (.bool false)/\ W.cell? ⟨q,9,none⟩=some (.bool re)/\ W.cell? ⟨g,17,none⟩=some (pV gs)/\ W.cell? ⟨g,24,none⟩=some (.bool c.dO))
  (first|exact S0|exact Sd|exact X4|exact X5|go_keep)
  (first
    | (go_at_call 252
       refine hSv.mono ?_;rintro e w4 ⟨x,hx,rfl,hRs,L4⟩;have z4:=zd.trans (Stp.below L4 (fun _=>False) tV) fun _ h=>h
       have h5:=h4.keep z4 fun _ _ h=>h
       have b5:=b4.keep z4 id;have X4:=hI _ _ _ _ _ _ _ b5 h5.b rfl;have hx:x.r=stR:=hx;have hL:=Xl w4 tV m g cf tv gs _ x false v' c.dO ⟨gq,gr,gp,bw,h5⟩ (hg4.keep z4 id) hm hRs (st_z x hx) (fun _=>by rw[hx];exact wQ) (by rw[hx];exact(Xb _ _ _).1) (by rw[hx];have:=(Xb false v' c.dO).2;omega) (by have:=hok.qb;show c.q.b.length<= _;omega) (by have:=hok.qp;show c.q.pcs.length<= _;omega) hok.ql hok.la
       rw[hx]at hL)
    | (go_at_call 185
       refine hL.mono ?_;rintro e w6 ⟨rfl,t6,h6,s6⟩;have h7:=h6;obtain⟨gq6,gr6,gp6,bw6,h7⟩:=h7
       have X5:=hI _ _ _ _ _ _ _ (b5.keep s6 (by omega)) h7.b (Xm _ _ _ _ _)))
 have sD:=(sC.trans z4 fun _ h=>h.elim).trans s6 fun _ h=>h
 go_wp2_with fail
 go_ret
 rw[he]at h6;exact⟨rfl,t6,h6,sD⟩
theorem Xn (hg:GL w t) (hm:10<= m) (hms: ∀y,Mk ms 10 y-> ¬Mk m 20 y) (h:dK w t m g cf tv gs c) (hs:yw w t ms gs tab) (r:Option CnS) (hr:MS cf tab c=some r):
 Calls Tryz.prog 197 #[pV g] w fun e w'=>e= .returned (.bool r.isSome)/\ ∃t',dK w' t' m g cf tv gs (r.getD c)/\ Stp (Mk m 20) w t w' t':=by
 obtain⟨hok,hr⟩:=aI hr;have hok:=OE hok;cases hf:lY cf c
 ·rw[hf]at hr
  simp only[Bool.false_eq_true,if_false]at hr;cases he:c.ending
  ·rw[he]at hr
   simp only[Bool.false_eq_true,if_false]at hr;by_cases hp:c.p.phase=3
   ·rw[if_pos hp]at hr
    obtain⟨h1,h2⟩:=aI hr;simp only[Bool.and_eq_true,decide_eq_true_eq,Bool.not_eq_true']at h1;obtain⟨h1,h3,h4,h5⟩:=h1;obtain rfl:=Option.some.inj h2;simp only[Option.isSome_some,Option.getD_some];have hsg:nM tab (wE c.p).t.path=stR:=by rw[nM,if_pos h4];rfl
    rw[hsg,h5,Bool.false_or];have hT:=Rw w t m g cf tv gs c tab ms hg hm hms h hs hok hf he hp _ rfl h1 h3 h4 h5;rw[he]at hT;exact hT
   ·rw[if_neg hp]at hr
    obtain⟨h1,h2⟩:=aI hr;simp only[Bool.and_eq_true,decide_eq_true_eq,Bool.not_eq_true']at h1;obtain rfl:=Option.some.inj h2;exact Ru w t m g cf tv gs c h hok hf he h1.1 h1.2
  ·rw[he]at hr
   obtain rfl:r=none:=by simpa using hr.symm
   exact Rt w t m g cf tv gs c h hok hf he
 ·rw[hf]at hr
  obtain rfl:=Option.some.inj (show some (some _)=some r from hr)
  exact Q8 w t m g cf tv gs c hg hm h hok hf
end
theorem dK.set {w:World} {t:Nat-> Nat} {m g:Nat} {cf:Cf} {tv:Value} {gs:Nat} {c:CnS} (h:dK w t m g cf tv gs c) (i:Nat) (u:Value) (c':CnS) (hc: ∀gq gr gp bw,(uV cf tv gq gs gr gp bw c).setIfInBounds i u=uV cf tv gq gs gr gp bw c')
 (h1:c'.q=c.q) (h2:c'.ring=c.ring) (h3:c'.p=c.p) (h4:c'.words=c.words):
 dK (w.setCell ⟨g,i,none⟩ u) t m g cf tv gs c'/\ Stp (Mk m 20) w t (w.setCell ⟨g,i,none⟩ u) t:=by
 obtain⟨gq,gr,gp,bw,h⟩:=h;obtain⟨a,z⟩:=h.set i u c' (hc _ _ _ _) h1 h2 h3 h4;exact⟨⟨gq,gr,gp,bw,a⟩,z.mono fun y (hy:y=m)=>(show Mk m 20 y by omega)⟩
section
variable (w:World) (t:Nat-> Nat) (m g:Nat) (cf:Cf) (tv:Value) (gs:Nat) (c:CnS) (tab:List En) (ms:Nat)
theorem Fa (hg:GL w t) (hm:10<= m) (hms: ∀y,Mk ms 10 y-> ¬Mk m 20 y) (h:dK w t m g cf tv gs c) (hs:yw w t ms gs tab) (b:CnS) (hb:su cf tab c=some b):
 Calls Tryz.prog 153 #[pV g] w fun e w'=>e= .returned (.tuple #[])/\ ∃t',dK w' t' m g cf tv gs b/\ Stp (Mk m 20) w t w' t':=by
 obtain⟨d,hd,hdb⟩:=Option.map_eq_some_iff.1 hb;clear hb;have HE:=Lib.hid (show JG d=b from hdb)
 clear hdb;go_enter Tryz.func153,Tryz.ntmps153
 go_wp2_with fail
 go_loopg [] 40 (fun gk wr=> ∃t1 c1,dK wr t1 m g cf tv gs c1/\ Hid (yj cf tab gk c1=some d)/\ Stp (Mk m 20) w t wr t1)
 case atStart=>exact⟨t,c,h,Lib.hid hd,Stp.refl _ _ _⟩
 case round=>
  clear hd;obtain⟨t1,c1,h1,H,s1⟩:=hrel;have hg1:=hg.keep s1 (by omega)
  have hs1:=hs.keep s1 hms;rcases gk with _|gk
  ·exact absurd H.out (by simp[yj])
  ·have j12:wr.cell? ⟨g,27,none⟩=some (.bool c1.closed):=by obtain⟨gq,gr,gp,bw,h1⟩:=h1;exact h1.b.b.cell 27
   have hH:=H.out;rw[yj]at hH;cases hcl:c1.closed
   ·rw[hcl]at j12 hH
    simp only[Bool.false_eq_true,if_false]at hH;rcases hst:MS cf tab c1 with _|r
    ·rw[hst]at hH;exact absurd hH (by simp)
    ·rw[hst]at hH
     have hS:=Xn wr t1 m g cf tv gs c1 tab ms hg1 hm hms h1 hs1 r hst;rcases r with _|c2
     ·obtain rfl:c1=d:=by simpa using hH
      simp only[Option.isSome_none,Option.getD_none]at hS;clear h1 hs1 hst hH H;go_wp2_with fail
      refine hS.mono ?_;rintro e w2 ⟨rfl,t2,h2,s2⟩;have sE:=s1.trans s2 fun _ h=>h
      clear hS hg1 s1 s2 j12;have hN:dK w2 t2 m g cf tv gs c1:=h2;obtain⟨gq,gr,gp,bw,h2⟩:=h2;have j0:w2.cell? ⟨g,0,none⟩=some (pV gq):=h2.b.b.cell 0;have j18:w2.cell? ⟨g,18,none⟩=some (pV gr):=h2.b.b.cell 18;have j19:w2.cell? ⟨g,19,none⟩=some (pV gp):=h2.b.b.cell 19;have j24:w2.cell? ⟨g,24,none⟩=some (.bool c1.dO):=h2.b.b.cell 24;have j25:w2.cell? ⟨g,25,none⟩=some (.bool c1.ending):=h2.b.b.cell 25;have j26:w2.cell? ⟨g,26,none⟩=some (.bool c1.ended):=h2.b.b.cell 26;have j27:w2.cell? ⟨g,27,none⟩=some (.bool c1.closed):=h2.b.b.cell 27;have f27:w2.frozen? ⟨g,27,none⟩=false:=h2.b.b.frozen 27;have hL:=rQ w2 t2 (m+1) gq c1.q h2.q;have hP:=nY w2 t2 (m+12) gp c1.p h2.p;have hR:=wG w2 t2 (m+8) gr c1.ring h2.r;have hset:=fun v=>hN.set 27 (.bool v) { c1 with closed:=v } (fun _ _ _ _=>rfl) rfl rfl rfl rfl
      clear h2;rw[hcl]at j27;rcases Nat.eq_zero_or_pos c1.q.b.length with hq|hq
      ·have HE2:=Lib.hid (show b= { c1 with closed:=c1.ended|| (c1.dO&& (!c1.ending&& (decide (c1.p.phase=0)&&decide (c1.ring.length=0)))) } by rw[<- HE.out,JG,if_neg (by simp[hq,hcl])])
       rw[hq]at hL;clear hN;have fin: ∀v,(c1.ended|| (c1.dO&& (!c1.ending&& (decide (c1.p.phase=0)&&decide (c1.ring.length=0)))))=v-> dK (w2.setCell ⟨g,27,none⟩ (.bool v)) t2 m g cf tv gs b/\ Stp (Mk m 20) w t (w2.setCell ⟨g,27,none⟩ (.bool v)) t2:=by
        intro v hv;obtain⟨a,z⟩:=hset v;exact⟨by rw[HE2.out,hv];exact a,sE.trans z fun _ h=>h⟩
       have FN:=Lib.hid fin;clear fin hset;cases hed:c1.ended
       ·rw[hed]at j26
        cases hqt:c1.dO
        ·rw[hqt]at j24
         go_wp2_with fail
         refine hL.mono ?_;rintro e w3 ⟨rfl,rfl⟩;go_wp2_with fail
         go_end0
         exact⟨rfl,t2,FN.out false (by rw[hed,hqt];rfl)⟩
        ·rw[hqt]at j24
         cases hen:c1.ending
         ·rw[hen]at j25
          rcases Nat.eq_zero_or_pos c1.p.phase with hp|hp
          ·rw[hp]at hP
           rcases Nat.eq_zero_or_pos c1.ring.length with hr|hr
           ·rw[hr]at hR
            go_wp2_with fail
            refine hL.mono ?_;rintro e w3 ⟨rfl,rfl⟩;go_wp2_with fail
            refine hP.mono ?_;rintro e w3 ⟨rfl,rfl⟩;go_wp2_with fail
            refine hR.mono ?_;rintro e w3 ⟨rfl,rfl⟩;go_wp2_with fail
            go_end0
            exact⟨rfl,t2,FN.out true (by rw[hed,hqt,hen,hp,hr];rfl)⟩
           ·have hr0:((c1.ring.length:Int)==0)=false:=beq_false_of_ne (by omega)
            have HR0:=Lib.hid (show decide (c1.ring.length=0)=false from decide_eq_false (by omega))
            clear hr;go_wp2_with fail
            refine hL.mono ?_;rintro e w3 ⟨rfl,rfl⟩;go_wp2_with fail
            refine hP.mono ?_;rintro e w3 ⟨rfl,rfl⟩;go_wp2_with fail
            refine hR.mono ?_;rintro e w3 ⟨rfl,rfl⟩;go_wp2_with fail
            go_end0
            exact⟨rfl,t2,FN.out false (by rw[HR0.out];simp[hed])⟩
          ·have hp0:((c1.p.phase:Int)==0)=false:=beq_false_of_ne (by omega)
           have HP0:=Lib.hid (show decide (c1.p.phase=0)=false from decide_eq_false (by omega))
           clear hp;go_wp2_with fail
           refine hL.mono ?_;rintro e w3 ⟨rfl,rfl⟩;go_wp2_with fail
           refine hP.mono ?_;rintro e w3 ⟨rfl,rfl⟩;go_wp2_with fail
           go_end0
           exact⟨rfl,t2,FN.out false (by rw[HP0.out];simp[hed])⟩
         ·rw[hen]at j25
          go_wp2_with fail
          refine hL.mono ?_;rintro e w3 ⟨rfl,rfl⟩;go_wp2_with fail
          go_end0
          exact⟨rfl,t2,FN.out false (by rw[hen];simp[hed])⟩
       ·rw[hed]at j26
        go_wp2_with fail
        refine hL.mono ?_;rintro e w3 ⟨rfl,rfl⟩;go_wp2_with fail
        go_end0
        exact⟨rfl,t2,FN.out true (by rw[hed];rfl)⟩
      ·have HE2:=Lib.hid (show b=c1 by rw[<- HE.out,JG,if_pos (by simp only[Bool.or_eq_true,decide_eq_true_eq];exact .inl hq)])
       have hne: ¬c1.q.b= []:=fun h=>by rw[h]at hq;simp at hq
       clear hset;go_wp2_with fail
       refine hL.mono ?_;rintro e w3 ⟨rfl,rfl⟩;go_wp2_with fail
       refine bodyPost_ret (results_none rfl _ _ _) rfl ?_;exact⟨rfl,t2,by rw[HE2.out];exact hN,sE⟩
     ·have hL2:yj cf tab gk c2=some d:=hH
      simp only[Option.isSome_some,Option.getD_some]at hS;clear h1 hs1 hst hH H;go_wp2_with fail
      refine hS.mono ?_;rintro e w2 ⟨rfl,t2,h2,s2⟩;have sE:=s1.trans s2 fun _ h=>h
      go_wp2_with fail
      go_roundg gk
      case rel=>exact⟨t2,c2,h2,Lib.hid hL2,sE⟩
      case measure=>omega
   ·rw[hcl]at j12 hH
    simp only[if_true]at hH;obtain rfl:c1=d:=by simpa using hH
    clear hs1 hH H hg1;have HE2:=Lib.hid (show b=c1 by rw[<- HE.out,JG,if_pos (by simp[hcl])])
    have hN:dK wr t1 m g cf tv gs c1:=h1;obtain⟨gq,gr,gp,bw,h1⟩:=h1;have j0:wr.cell? ⟨g,0,none⟩=some (pV gq):=h1.b.b.cell 0;have hL:=rQ wr t1 (m+1) gq c1.q h1.q;clear h1;rcases Nat.eq_zero_or_pos c1.q.b.length with hq|hq
    ·rw[hq]at hL
     go_wp2_with fail
     refine hL.mono ?_;rintro e w3 ⟨rfl,rfl⟩;go_wp2_with fail
     refine bodyPost_ret (results_none rfl _ _ _) rfl ?_;exact⟨rfl,t1,by rw[HE2.out];exact hN,s1⟩
    ·have hne: ¬c1.q.b= []:=fun h=>by rw[h]at hq;simp at hq
     go_wp2_with fail
     refine hL.mono ?_;rintro e w3 ⟨rfl,rfl⟩;go_wp2_with fail
     refine bodyPost_ret (results_none rfl _ _ _) rfl ?_;exact⟨rfl,t1,by rw[HE2.out];exact hN,s1⟩
def qX (now:Nat) (c b:CnS):CnS:=
 if bG b≠c.phase\/ (bG b=3/\ b.told≠c.told)then { b with phase:=bG b,since:=now,wL:=now,fed:=0 } else { b with phase:=bG b }
theorem J5 (hg:GL w t) (hm:10<= m) (hms: ∀y,Mk ms 10 y-> ¬Mk m 20 y) (h:dK w t m g cf tv gs c) (hs:yw w t ms gs tab) (S:Nat-> Prop) (hS: ∀y,Mk m 20 y-> S y) (hS0: ¬S 0) (hSm: ∀y,Mk ms 10 y-> ¬S y) (k:FuncId) (cap:Array Value)
 (hk: ∀(args:Array Value) (w:World),(callFunc k args).run Tryz.prog w= .ok (.enter k args) w) (a b:CnS) (now:Nat) (hb:su cf tab a=some b) (Q:World->(Nat-> Nat)-> Prop) (hQ: ∀w t w' t',Q w t-> Stp (Mk m 20) w t w' t'-> Q w' t')
 (hcl: ∀n,Calls Tryz.prog k cap (w.drewN n) fun e w'=>e= .returned (.tuple #[])/\ ∃t',dK w' t' m g cf tv gs a/\ Q w' t'/\ Stp S w t w' t'):
 Calls Tryz.prog 95 #[pV g,nV now,.func (.func k) #[] cap] w fun e w'=>e= .returned (.tuple #[])/\ ∃t',dK w' t' m g cf tv gs (qX now c b)/\ Q w' t'/\ Stp S w t w' t':=by
 have j20:w.cell? ⟨g,20,none⟩=some (nV c.phase):=by obtain⟨gq,gr,gp,bw,h⟩:=h;exact h.b.b.cell 20
 have j33:w.cell? ⟨g,33,none⟩=some (nV c.told):=by obtain⟨gq,gr,gp,bw,h⟩:=h;exact h.b.b.cell 33
 go_enter Tryz.func95,Tryz.ntmps95
 go_wp2_with fail
 go_quiet (fail)
 go_wp2_with fail
 refine(hcl _).mono ?_;rintro e w1 ⟨rfl,t1,h1,q1,s1⟩;have hW:=Fa w1 t1 m g cf tv gs a tab ms (hg.keep s1 hS0) hm hms h1 (hs.keep s1 hSm) b hb;clear h1 hcl j20 j33 hs hg h;go_wp2_with fail
 refine hW.mono ?_;rintro e w2 ⟨rfl,t2,h2,s2⟩;have sA:=s1.trans s2 hS;have q2:=hQ _ _ _ _ q1 s2;have hT:=Q7 w2 t2 m g cf tv gs b h2;clear hW s1 s2 q1 hb;obtain⟨h3,z3⟩:=h2.set 20 (nV (bG b)) { b with phase:=bG b } (fun _ _ _ _=>rfl) rfl rfl rfl rfl
 have f20:w2.frozen? ⟨g,20,none⟩=false:=by obtain⟨gq,gr,gp,bw,h⟩:=h2;exact h.b.b.frozen 20
 have j20:w2.cell? ⟨g,20,none⟩=some (nV b.phase):=by obtain⟨gq,gr,gp,bw,h⟩:=h2;exact h.b.b.cell 20
 have q3:=hQ _ _ _ _ q2 z3;have sB:=sA.trans z3 hS;clear h2 z3 q2 sA;go_wp2_with fail
 refine hT.mono ?_;rintro e w3 ⟨rfl,rfl⟩;clear hT;obtain⟨V,hV⟩: ∃V,V=w2.setCell ⟨g,20,none⟩ (nV (bG b)):=⟨_,rfl⟩;go_upto_region 4 with(fail)
 rw[<- hV]at h3 q3 sB⊢;clear hV f20 j20;have j20:V.cell? ⟨g,20,none⟩=some (nV (bG b)):=by obtain⟨gq,gr,gp,bw,h⟩:=h3;exact h.b.b.cell 20
 have j33:V.cell? ⟨g,33,none⟩=some (nV b.told):=by obtain⟨gq,gr,gp,bw,h⟩:=h3;exact h.b.b.cell 33
 have f21:V.frozen? ⟨g,21,none⟩=false:=by obtain⟨gq,gr,gp,bw,h⟩:=h3;exact h.b.b.frozen 21
 have f22:V.frozen? ⟨g,22,none⟩=false:=by obtain⟨gq,gr,gp,bw,h⟩:=h3;exact h.b.b.frozen 22
 have f23:V.frozen? ⟨g,23,none⟩=false:=by obtain⟨gq,gr,gp,bw,h⟩:=h3;exact h.b.b.frozen 23
 have j21:V.cell? ⟨g,21,none⟩=some (nV b.since):=by obtain⟨gq,gr,gp,bw,h⟩:=h3;exact h.b.b.cell 21
 have j22:V.cell? ⟨g,22,none⟩=some (nV b.wL):=by obtain⟨gq,gr,gp,bw,h⟩:=h3;exact h.b.b.cell 22
 have j23:V.cell? ⟨g,23,none⟩=some (nV b.fed):=by obtain⟨gq,gr,gp,bw,h⟩:=h3;exact h.b.b.cell 23
 obtain⟨h4,z4⟩:=h3.set 21 (nV now) { b with phase:=bG b,since:=now } (fun _ _ _ _=>rfl) rfl rfl rfl rfl
 obtain⟨h5,z5⟩:=h4.set 22 (nV now) { b with phase:=bG b,since:=now,wL:=now } (fun _ _ _ _=>rfl) rfl rfl rfl rfl
 obtain⟨h6,z6⟩:=h5.set 23 (.int .i64 0) { b with phase:=bG b,since:=now,wL:=now,fed:=0 } (fun _ _ _ _=>rfl) rfl rfl rfl rfl
 have q6:=hQ _ _ _ _ (hQ _ _ _ _ (hQ _ _ _ _ q3 z4) z5) z6;have s6:=((sB.trans z4 hS).trans z5 hS).trans z6 hS;have HD:=Lib.hid (show qX now c b=if bG b≠c.phase\/ (bG b=3/\ b.told≠c.told)then { b with phase:=bG b,since:=now,wL:=now,fed:=0 } else { b with phase:=bG b } from rfl)
 clear h4 h5 z4 z5 z6;by_cases hA:bG b=c.phase
 ·by_cases hB:bG b=3
  ·by_cases hC:b.told=c.told
   ·have HE:=Lib.hid (show qX now c b= { b with phase:=bG b } by rw[HD.out,if_neg (by simp[hA,hC])])
    clear h6 q6 s6 HD;rw[<- hA];rw[hC]at j33;have HB:=hB;go_wp2_with fail
    go_end0
    exact⟨rfl,t2,by rw[HE.out];exact h3,q3,sB⟩
   ·have HE:=Lib.hid (show qX now c b= { b with phase:=bG b,since:=now,wL:=now,fed:=0 } by rw[HD.out,if_pos (.inr ⟨hB,hC⟩)])
    have hC1:((b.told:Int)==(c.told:Int))=false:=beq_false_of_ne (by omega)
    clear HD;rw[<- hA];go_wp2_with fail
    go_end0
    exact⟨rfl,t2,by rw[HE.out];exact h6,q6,s6⟩
  ·have HE:=Lib.hid (show qX now c b= { b with phase:=bG b } by rw[HD.out,if_neg (by simp[hA,hB];intro h;exact absurd (hA.trans h) hB)])
   have hB1:((bG b:Int)==3)=false:=beq_false_of_ne (by omega)
   clear h6 q6 s6 HD;rw[<- hA];go_wp2_with fail
   go_end0
   exact⟨rfl,t2,by rw[HE.out];exact h3,q3,sB⟩
 ·have HE:=Lib.hid (show qX now c b= { b with phase:=bG b,since:=now,wL:=now,fed:=0 } by rw[HD.out,if_pos (.inl hA)])
  have hA1:((bG b:Int)==(c.phase:Int))=false:=beq_false_of_ne (by omega)
  clear HD;go_wp2_with fail
  go_end0
  exact⟨rfl,t2,by rw[HE.out];exact h6,q6,s6⟩
end
def OJ (x:NC):Bool:=x.shut|| (x.broken|| (x.taken&& !x.op))
theorem Zp (w:World) (t:Nat-> Nat) (m gn:Nat) (n:cu) (i:Nat) (x:NC) (h:fP w t m gn n) (hx:n.aG[i]? = some x) (hb:x.broken=false) (hs:x.shut=false) (ht:x.taken=true) (hg:x.got.length<= 100000000):
 Calls Tryz.prog 11 #[pV gn,nV i] w fun e w'=> ∃v,e= .returned (.tuple #[v,.bool (OJ x)])/\ OB w' w.heap.size v x.got/\ Below w.heap.size w w':=by
 obtain⟨A,vc,vq,h⟩:=h;have hi:i<n.aG.length:=(List.getElem?_eq_some_iff.1 hx).1;have hAt:=yg w t m gn n A vc vq h i hi;obtain⟨g0,hg0,vi,vg,vt,hk⟩:=h.k i x hx;obtain⟨Ag,cg,rfl,hng,-,hrg,hAg⟩:=hk.g.form;have j1:w.cell? ⟨g0,1,none⟩=some (.bool x.op):=hk.b.b.cell 1;have j2:w.cell? ⟨g0,2,none⟩=some (.bool false):=by rw[<- hb];exact hk.b.b.cell 2
 have j5:w.cell? ⟨g0,5,none⟩=some (.bool false):=by rw[<- hs];exact hk.b.b.cell 5
 have j6:w.cell? ⟨g0,6,none⟩=some (.bool true):=by rw[<- ht];exact hk.b.b.cell 6
 have j11:w.cell? ⟨g0,11,none⟩=some (.slice Ag x.got.length cg):=hk.b.b.cell 11;have hgl:=hk.b.b.lt;have HR:=Lib.hid (show OJ x= !x.op by rw[OJ,hb,hs,ht];rfl)
 have hnil:Ag=none-> x.got= []:=fun e=>List.eq_nil_of_length_eq_zero (by
  rcases Nat.eq_zero_or_pos x.got.length with h0|h0
  ·exact h0
  ·obtain⟨y,o,e2,-⟩:=hrg.2 h0
   rw[e]at e2;cases e2)
 have hCl:=fun q=>nO Ag cg _ x.got (w.drewN q) (hrg.drewN q) hnil (by omega)
 go_enter Tryz.func11,Tryz.ntmps11
 go_wp2_with fail
 refine hAt.mono ?_;rintro e w1 ⟨⟨g,hg',rfl⟩,rfl⟩;obtain rfl:g0=g:=by rw[hg0]at hg';exact Option.some.inj hg'
 clear hAt hg' hrg hnil h hk hg0 hx hb hs ht;generalize x.op=o at*;go_wp2_with fail
 have hI: ∀W,Below w.heap.size w W-> W.cell? ⟨g0,1,none⟩=some (.bool o)/\ W.cell? ⟨g0,2,none⟩=some (.bool false)/\ W.cell? ⟨g0,5,none⟩=some (.bool false)/\ W.cell? ⟨g0,6,none⟩=some (.bool true)/\ W.cell? ⟨g0,11,none⟩=some (.slice Ag x.got.length cg):=fun W L=>⟨(L.cell (p:=⟨g0,1,none⟩) hgl).trans j1,(L.cell (p:=⟨g0,2,none⟩) hgl).trans j2,(L.cell (p:=⟨g0,5,none⟩) hgl).trans j5,(L.cell (p:=⟨g0,6,none⟩) hgl).trans j6,(L.cell (p:=⟨g0,11,none⟩) hgl).trans j11⟩
 have S0:=hI w (Below.refl _ _);have Sd:=hI w.drew (Below.refl _ _).drew;have hC1:=hCl 1;go_region_held3 (fun W=>W.cell? ⟨g0,1,none⟩=some (.bool o)/\ W.cell? ⟨g0,2,none⟩=some (.bool false)/\ W.cell? ⟨g0,5,none⟩=some (.bool false)/\ W.cell? ⟨g0,6,none⟩=some (.bool true)/\ W.cell? ⟨g0,11,none⟩=some (.slice Ag x.got.length cg))
  (first|exact S0|exact Sd|exact X4|go_keep)
  (first
    | (go_at_call 31
       refine hC1.mono ?_;rintro e w4 ⟨v,rfl,ho,L4⟩;have L5:=stepW (Below.refl w.heap.size w).drew L4
       have X4:=hI w4 L5))
 go_wp2_with fail
 go_ret2
 exact⟨v,by rw[HR.out];rfl,ho,L5⟩
end Go.Proofs.YtdmondfpepbniaaGreatDoor
