/- Part 31 of the proof: VnA VwA VwB VlB. -/
import Derived.Test.YtdmondfpepbniaaGreatDoorQ24
import Derived.Test.YtdmondfpepbniaaGreatDoorQ25
import Derived.Test.YtdmondfpepbniaaGreatDoorQ27
namespace Go.Proofs.YtdmondfpepbniaaGreatDoor
open Go.RowKit
set_option maxRecDepth 100000
set_option maxHeartbeats 4000000
set_option linter.all false
theorem Np (w:World) (t:Nat-> Nat) (m gn:Nat) (n:cu) (k:Nat) (h:fP w t m gn n):
 Calls Tryz.prog 21 #[pV gn,nV k] w fun e w'=>e= .returned (.tuple #[])/\ ∃t',fP w' t' m gn { n with fails:=k } /\ Stp (Mk m 1000) w t w' t':=by
 obtain⟨A,vc,vq,h⟩:=h;have i4:w.frozen? ⟨gn,4,none⟩=false:=h.b.b.frozen 4;have j4:w.cell? ⟨gn,4,none⟩=some (nV n.fails):=h.b.b.cell 4;have hmax:max (0:Int) (k:Int)=(k:Int):=by omega
 go_enter Tryz.func21,Tryz.ntmps21
 go_wp2
 go_end0
 obtain⟨b1,s1⟩:=h.b.aH 4 (nV k)
 exact⟨rfl,t,⟨A,vc,vq,b1.to (by simp),h.c.keep s1 (by omega),h.q.keep s1 (by omega),h.l,fun i x hx=>by
  obtain⟨g,hg,hk⟩:=h.k i x hx
  exact⟨g,hg,hk.keep s1 fun y hy=>by omega⟩,h.s⟩,s1.mono fun x (h:x=m)=>(show m<= x/\ x<m+1000 by omega)⟩
theorem Ze (w:World) (t:Nat-> Nat) (m gn:Nat) (n:cu) (h:fP w t m gn n):
 Calls Tryz.prog 88 #[pV gn] w fun e w'=>e= .returned (.tuple #[nV n.queue.length,nV n.op])/\ ∃q,w'=w.drewN q:=by
 obtain⟨A,vc,vq,h⟩:=h;obtain⟨Aq,cq,rfl,-,-,-,-⟩:=h.q.form;have j2:w.cell? ⟨gn,2,none⟩=some (.slice Aq n.queue.length cq):=h.b.b.cell 2;have j6:w.cell? ⟨gn,6,none⟩=some (nV n.op):=h.b.b.cell 6;go_enter Tryz.func88,Tryz.ntmps88
 go_wp2_with fail
 go_quiet (fail)
 go_wp2_with fail
 go_ret2
 exact⟨rfl,_,rfl⟩
theorem Xd (w:World) (t:Nat-> Nat) (m gn:Nat) (n:cu) (i:Nat) (x:NC) (b:Nat) (h:fP w t m gn n) (hx:n.aG[i]? = some x) (hT:nJ x=true) (hb:b<= 1099511627776) (hw:x.window<= 1099511627776) (hr:x.wr<= 1000000):
 Calls Tryz.prog 20 #[pV gn,nV i,nV b] w fun e w'=>e= .returned (.int .i64 0)/\ ∃t',fP w' t' m gn (n.up i fun x=>mM x b)/\ Stp (Mk m 1000) w t w' t':=by
 obtain⟨A,vc,vq,h⟩:=h;have hAt:=BI w t m gn n A vc vq h i x hx;rw[hT]at hAt;have hi:i<n.aG.length:=(List.getElem?_eq_some_iff.1 hx).1;have hs:=h.s;obtain⟨g0,hg0,vi,vg,vt,hk⟩:=h.k i x hx;have j8:w.cell? ⟨g0,8,none⟩=some (nV x.window):=hk.b.b.cell 8;have i8:w.frozen? ⟨g0,8,none⟩=false:=hk.b.b.frozen 8;have j10:w.cell? ⟨g0,10,none⟩=some (nV x.wr):=hk.b.b.cell 10;have i10:w.frozen? ⟨g0,10,none⟩=false:=hk.b.b.frozen 10;have d0:decide (b<0)=false:=by simp
 have hwr1:IntKind.i64.wrap ((1099511627776:Int)- (x.window:Int))=(1099511627776:Int)- (x.window:Int):=IntWalk.i64_in _ ⟨by omega,by omega⟩
 have hwr2:IntKind.i64.wrap ((x.window:Int)+min (b:Int) ((1099511627776:Int)- (x.window:Int)))=(x.window:Int)+min (b:Int) ((1099511627776:Int)- (x.window:Int)):=IntWalk.i64_in _ ⟨by omega,by omega⟩
 go_enter Tryz.func20,Tryz.ntmps20
 go_wp2_with fail
 refine hAt.mono ?_;rintro e w1 ⟨⟨g,hg,he⟩,rfl⟩;obtain rfl:e= .returned (.tuple #[pV g,.int .i64 0]):=he;obtain rfl:g0=g:=by rw[hg0]at hg;exact Option.some.inj hg
 clear hAt hg;rcases Nat.eq_zero_or_pos b with h0|h0
 ·subst h0
  go_wp2_with fail
  go_region
  go_wp2_with fail
  go_ret
  obtain⟨b1,s1⟩:=hk.b.aH 8 (.int .i64 ((x.window:Int)+min 0 ((1099511627776:Int)- (x.window:Int))));have e1:((x.window+min 0 (1099511627776-x.window):Nat):Int)=(x.window:Int)+min 0 ((1099511627776:Int)- (x.window:Int)):=by omega
  obtain⟨q1,q2⟩:=hk.sets (y:=mM x 0) b1 s1 (by simp only[ncC,mM,nV,e1];simp) rfl rfl rfl
  exact⟨rfl,h.fin (fun x=>mM x 0) hx hg0 q2.drew q1.drew⟩
 ·have d1:decide (0<b)=true:=by simpa using h0
  go_wp2_with fail
  go_region
  go_wp2_with fail
  go_ret
  obtain⟨b1,s1⟩:=hk.b.aH 8 (.int .i64 ((x.window:Int)+min (b:Int) ((1099511627776:Int)- (x.window:Int))));obtain⟨b2,s2⟩:=b1.aH 10 (.int .i64 ((x.wr:Int)+1));have e1:((x.window+min b (1099511627776-x.window):Nat):Int)=(x.window:Int)+min (b:Int) ((1099511627776:Int)- (x.window:Int)):=by omega
  obtain⟨q1,q2⟩:=hk.sets (y:=mM x b) b2 (s1.trans s2 fun _ h=>h) (by simp only[ncC,mM,nV,e1,if_pos h0];simp) rfl rfl rfl
  exact⟨rfl,h.fin (fun x=>mM x b) hx hg0 q2.drew q1.drew⟩
theorem ET (w:World) (t:Nat-> Nat) (m gn:Nat) (n:cu) (i:Nat) (x:NC) (h:fP w t m gn n) (hx:n.aG[i]? = some x):
 Calls Tryz.prog 54 #[pV gn,nV i] w fun e w'=>e= .returned (.agg #[.bool x.waits,.bool x.op,.bool x.broken,nV x.peer])/\ Below w.heap.size w w':=by
 obtain⟨A,vc,vq,h⟩:=h;have hi:i<n.aG.length:=(List.getElem?_eq_some_iff.1 hx).1;obtain⟨g0,hg0,vi,vg,vt,hk⟩:=h.k i x hx;go_enter Tryz.func54,Tryz.ntmps54
 go_upto_region 1 with(fail)
 obtain⟨V,hV⟩: ∃V,V=w.alloc (.cells #[.bool false,.bool false,.bool false,.int .i64 0] 91):=⟨_,rfl⟩;rw[<- hV];have LV:Below w.heap.size w V:=by rw[hV];exact aj (Below.refl _ _) _
 have BV:Blk V w.heap.size 91 #[.bool false,.bool false,.bool false,.int .i64 0]:=by rw[hV];exact Blk.new' _ _ rfl _ _
 clear hV;have h:=h.keep (Stp.below LV (fun _=>False) t) fun _ _ h=>h
 have hAt:=yg V t m gn n A vc vq h i hi;obtain⟨g1,hg1,vi,vg,vt,hk⟩:=h.k i x hx;obtain rfl:g0=g1:=by rw[hg0]at hg1;exact Option.some.inj hg1
 obtain⟨x0,x1,x2,x3,y0,y1,y2,y3⟩:=BV.c4;have j0:V.cell? ⟨g0,0,none⟩=some (.bool x.waits):=hk.b.b.cell 0;have j1:V.cell? ⟨g0,1,none⟩=some (.bool x.op):=hk.b.b.cell 1;have j2:V.cell? ⟨g0,2,none⟩=some (.bool x.broken):=hk.b.b.cell 2;have j3:V.cell? ⟨g0,3,none⟩=some (nV x.peer):=hk.b.b.cell 3;clear hg1;go_wp2_with fail
 refine hAt.mono ?_;rintro e w1 ⟨⟨g,hg,rfl⟩,rfl⟩;obtain rfl:g0=g:=by rw[hg0]at hg;exact Option.some.inj hg
 clear hg hAt;go_wp2_with fail
 refine bodyPost_ret (v:=.agg #[.bool x.waits,.bool x.op,.bool x.broken,nV x.peer]) (by simp[results,Tryz.results54,go_sem,x0,x1,x2,x3]) rfl ⟨rfl,?_⟩
 repeat refine setW ?_ (by simp) _
 exact LV
theorem Xe (w:World) (t:Nat-> Nat) (m gn:Nat) (n:cu) (i:Nat) (x:NC) (p:Bs) (h:fP w t m gn n) (hx:n.aG[i]? = some x) (hT:nJ x=true) (hh:x.halved=false) (hl:x.inp.length<= 1024) (hp:p.length<= 1000000) (hr:x.rd<= 1000000)
 (A2:Option Addr) (c2:Nat) (Ap:Option Addr) (cp:Nat) (hpc:p.length<= cp) (h2: ∃y o,A2=some ⟨y,o,none⟩/\ w.cell? ⟨y,o,none⟩=some (.slice Ap p.length cp)) (hrd:Rd w w.heap.size 1 Ap p.length (p.map bv)):
 Calls Tryz.prog 17 #[pV gn,nV i,.slice A2 1 c2] w fun e w'=>e= .returned (.tuple #[nV (p.take (1024-x.inp.length)).length,.int .i64 0])/\ ∃t',fP w' t' m gn (n.up i fun x=>qL x p)/\ Stp (Mk m 1000) w t w' t':=by
 obtain⟨A,vc,vq,h⟩:=h;have hAt:=BI w t m gn n A vc vq h i x hx;rw[hT]at hAt;have hi:i<n.aG.length:=(List.getElem?_eq_some_iff.1 hx).1;obtain⟨y2,o2,rfl,hy2⟩:=h2;obtain⟨g0,hg0,vi,vg,vt,hk⟩:=h.k i x hx;obtain⟨Ai,ci,rfl,-,-,-,-⟩:=hk.i.form;have j4:w.cell? ⟨g0,4,none⟩=some (.bool false):=by rw[<- hh];exact hk.b.b.cell 4
 have j7:w.cell? ⟨g0,7,none⟩=some (.slice Ai x.inp.length ci):=hk.b.b.cell 7;go_enter Tryz.func17,Tryz.ntmps17
 go_wp2_with fail
 refine hAt.mono ?_;rintro e w1 ⟨⟨g,hg,he⟩,rfl⟩;obtain rfl:e= .returned (.tuple #[pV g,.int .i64 0]):=he;obtain rfl:g0=g:=by rw[hg0]at hg;exact Option.some.inj hg
 clear hAt hg;obtain⟨q,hq⟩: ∃q,p.take (1024-x.inp.length)=q:=⟨_,rfl⟩;have hql:q.length<= p.length:=by rw[<- hq,List.length_take];omega
 have hmin:min (p.length:Int) ((1024:Int)- (x.inp.length:Int))=(q.length:Int):=by rw[<- hq,List.length_take];omega
 have hqi:q.length<= 1024:=by rw[<- hq,List.length_take];omega
 obtain⟨A',c',hc',hs,yX⟩:=zo cp q.length hrd hql hpc;have hqt:p.take q.length=q:=by rw[<- hq,List.length_take];simp[List.take_take]
 rw[hqt]at yX;have HQ:=Lib.hid hq;clear hq hqt;go_wp2_with fail
 go_loopw [10,30] (fun y z wr=>(z= .int .i64 0/\ y= .int .i64 0/\ w=wr)\/ (z= .int .i64 1/\ y=nV q.length/\ ∃t' vi',NcB wr t' (m+10+5*i) g0 { x with inp:=x.inp++q } vi' vg vt/\ Stp (Mk (m+10+5*i) 5) w t wr t')) (fun _ z _=>1- (intOf z).toNat)
 case atStart=>exact .inl ⟨rfl,rfl,rfl⟩
 case round=>
  rcases hrel with⟨rfl,rfl,rfl⟩| ⟨rfl,rfl,t1,vi1,hk1,S1⟩
  ·go_wp2_with (at_builtin;go_must (refine xw rfl _ _ 33 33 rfl 5 (.int .u8 0) 1 1 Tryz.underlying33 (.inl Tryz.underlying33) lT rfl t (m+10+5*i+1) (.slice Ai x.inp.length ci) x.inp.length (x.inp.map bv) rfl hk.i _ q.length (q.map bv) rfl (Src.fB yX (uD q)) (by omega) ?_;intro v' w2 t2 hr2 hs2;obtain⟨A3,c3,rfl,-,-,-,-⟩:=hr2.form;have hb2:=hk.b.keep (hs2 (fun z=>z=m+10+5*i+1) rfl) (by omega);have j7':w2.cell? ⟨g0,7,none⟩=some (.slice Ai x.inp.length ci):=hb2.b.cell 7;have i7':w2.frozen? ⟨g0,7,none⟩=false:=hb2.b.frozen 7))
   go_roundw
   case rel=>
    obtain⟨hb3,s3⟩:=hb2.aH 7 (.slice A3 (x.inp.length+q.length) c3);have k1:=(hk.g.keep (hs2 (fun z=>z=m+10+5*i+1) rfl) (by omega)).keep s3 (by omega)
    have k2:=(hk.t.keep (hs2 (fun z=>z=m+10+5*i+1) rfl) (by omega)).keep s3 (by omega)
    have k3:=hr2.keep s3 (by omega)
    exact .inr ⟨rfl,rfl,t2,.slice A3 (x.inp.length+q.length) c3,⟨hb3.to (by simp[ncC]),by simp only[List.length_append,List.map_append];exact k3,k1,k2⟩,(hs2 (Mk (m+10+5*i) 5) (by omega)).trans s3 fun z (h:z=m+10+5*i)=>(show m+10+5*i<= z/\ z<m+10+5*i+5 by omega)⟩
   case measure=>simp[intOf]
  ·have k9:wr.cell? ⟨g0,9,none⟩=some (nV x.rd):=hk1.b.b.cell 9
   have l9:wr.frozen? ⟨g0,9,none⟩=false:=hk1.b.b.frozen 9;rcases Nat.eq_zero_or_pos q.length with h0|h0
   ·have hq0:q= []:=List.eq_nil_of_length_eq_zero h0
    have d1:decide (0<q.length)=false:=by simp;omega
    go_wp2_with fail
    go_ret2
    exact⟨by rw[HQ.out];rfl,h.fin (fun x=>qL x p) hx hg0 S1 (by
     show NcK wr t1 _ g0 (qL x p);rw[qL,HQ.out,if_neg (by omega)]
     exact⟨vi1,vg,vt,hk1⟩)⟩
   ·have d1:decide (0<q.length)=true:=by simpa using h0
    go_wp2_with fail
    go_ret2
    obtain⟨b2,s2⟩:=hk1.b.aH 9 (.int .i64 ((x.rd:Int)+1));obtain⟨k1,k2⟩:=hk1.sets (y:= { x with inp:=x.inp++q,rd:=x.rd+1 }) b2 s2 (by simp[ncC]) rfl rfl rfl
    exact⟨by rw[HQ.out];rfl,h.fin (fun x=>qL x p) hx hg0 (S1.trans k2 fun _ h=>h) (by
     show NcK _ t1 _ g0 (qL x p);rw[qL,HQ.out,if_pos h0]
     exact k1)⟩
section
variable {w w':World} {t t':Nat-> Nat} {m g:Nat} {s:WhS} {gs bt:Nat} {LB:Nat-> Nat} {T:TL}
theorem WhB.look (h:WhB w t m g s gs bt LB T) (a:Hn) (ha:iH a) (y:Nat×jh) (hL:aT T a=some y) (V:World) (hV:V.heap[bt]? = w.heap[bt]?):
 (Instr.lookup 135 (.map (some bt)) (.agg #[.int .i64 (a.1:Int),.int .i64 (a.2:Int)]) false).run Tryz.prog V= .ok (.pointer (some ⟨y.1,0,none⟩)) V:=by
 have h2:MT V t (m+6) bt hnV iH (fun y:Nat×jh=>pV y.1) T:=by
  obtain⟨h1,h2,h3,es,cl,h4,h5⟩:=h.a;exact⟨h1,h2,h3,es,cl,hV.trans h4,h5⟩
 have:=h2.look uQ Tryz.underlying135 (z:=.pointer none) (by rfl) a ha false
 rw[hL]at this;exact this
theorem WhB.tim {gx:Nat} {a:Hn} {x x':jh} (h:WhB w t m g s gs bt LB T) (hL:aT T a=some (gx,x)) (st:Stp (fun y=>y=m+7) w t w' t') (hX:BT w' t' (m+7) gx 213 (MZ x'))
 (ho: ∀k,k≠gx-> k<w.heap.size-> w'.heap[k]? = w.heap[k]?):WhB w' t' m g { s with dZ:=bK s.dZ a x' } gs bt LB (dL T a (gx,x')):=by
 have hn:=h.a.2.2.1;have hm:=cZ hL;refine⟨h.b.keep st (by omega),h.sb.keep st (by omega) (by omega),(h.a.keep st (by omega)).vals (rU (fun y:Nat×jh=>pV y.1) T a (gx,x') (gx,x) hn hL rfl),?_,?_,fun y hy=> ?_,fun k hk=>(h.z k hk).keep st (by omega)⟩
 ·rw[<- rV hL,<- h.l]
  exact(nU (fun y:Nat×jh=>y.2) T a (gx,x')).symm
 ·rw[EK hn hL];exact h.d
 ·rcases BM hy with rfl| ⟨h1,h2⟩
  ·exact hX
  ·have h3:=h.x y h1
   exact h3.same (ho _ (addr_ne h.d h1 hm h2) h3.lt) (st.old _ h3.lt)
theorem WhB.list {lv sl:Nat} {l':List (Hn×Bool)} (h:WhB w t m g s gs bt LB T) (hl:lv<5) (hs:sl<64) (st:Stp (fun y=>y=m+20+(lv*64+sl)) w t w' t') (hM:MT w' t' (m+20+(lv*64+sl)) (LB (lv*64+sl)) hnV iH Value.bool l'):
 WhB w' t' m g { s with lists:=upL s.lists lv sl l' } gs bt LB T:=by
 refine⟨h.b.keep st (by omega),h.sb.keep st (by omega) (by omega),h.a.keep st (by omega),h.l,h.d,fun y hy=>(h.x y hy).keep st (by omega),fun k hk=> ?_⟩
 by_cases e:k=lv*64+sl
 ·subst e
  have e1:(lv*64+sl) / 64=lv:=by omega
  have e2:(lv*64+sl) % 64=sl:=by omega
  rw[e1,e2];simp only[upL,and_self,if_true];exact hM
 ·have: ¬(k / 64=lv/\ k % 64=sl):=by omega
  simp only[upL,if_neg this];exact(h.z k hk).keep st (by omega)
theorem WhB.found (h:WhB w t m g s gs bt LB T) {a:Hn} {x:jh} (hx:aT s.dZ a=some x): ∃gx,aT T a=some (gx,x):=by
 have hg:=h.get a;rw[hx]at hg;cases hy:aT T a with
 |none=>rw[hy]at hg;cases hg
 |some y=>rw[hy]at hg;injection hg with hg;exact⟨y.1,by rw[hg]⟩
end
theorem Xf (now at_:Nat):(dS now at_).1<5/\ (dS now at_).2<64:=by
 have hl:um now at_<= 4:=by unfold um;repeat' split<;>try omega
 unfold dS;split
 ·exact⟨by show 0<5;omega,Nat.mod_lt _ (by omega)⟩
 ·split
  ·exact⟨by show 4<5;omega,by show 0<64;omega⟩
  ·exact⟨by show um now at_<5;omega,Nat.mod_lt _ (by omega)⟩
theorem CB (w:World) (t:Nat-> Nat) (m g:Nat) (s:WhS) (a:Hn) (x:jh) (h:WhK w t m g s) (ha:iH a) (hx:aT s.dZ a=some x) (h1:s.now<4096) (h2:x.at_<4096):
 Calls Tryz.prog 118 #[pV g,hnV a] w fun e w'=>e= .returned (.tuple #[])/\ ∃t',WhK w' t' m g (iG s a x)/\ Stp (Mk m 340) w t w' t':=by
 obtain⟨gs,bt,LB,T,h⟩:=h;obtain⟨gx,hL⟩:=h.found hx;have hW:=Lib.hid (show iG s a x= { s with dZ:=bK s.dZ a { x with level:=(dS s.now x.at_).1,slot:=(dS s.now x.at_).2 },lists:=upL s.lists (dS s.now x.at_).1 (dS s.now x.at_).2 (bK (s.lists (dS s.now x.at_).1 (dS s.now x.at_).2) a true) } from rfl)
 have hP:=fun w j0=>QU w g s.now x.at_ h1 h2 j0
 have hlt:=Xf s.now x.at_;obtain⟨⟨lv,sl⟩,hp⟩: ∃r,r=dS s.now x.at_:=⟨_,rfl⟩;rw[<- hp]at hW hlt;simp only[<- hp]at hP;clear hp;simp only at hW hP hlt;go_enter Tryz.func118,Tryz.ntmps118
 go_upto_region 1 with(fail)
 obtain⟨V,hV⟩: ∃V,V=w.alloc (.cells #[.int .i64 a.1,.int .i64 a.2] 72):=⟨_,rfl⟩;rw[<- hV];have s0:Stp (fun _=>False) w t V (upT t w (m+8)):=by rw[hV];exact Stp.alloc w t _ _ _
 have BV:BT V (upT t w (m+8)) (m+8) w.heap.size 72 #[.int .i64 a.1,.int .i64 a.2]:=by rw[hV];exact BT.new' _ _ _ _ rfl _ _
 clear hV;have hB:=h.keep s0 fun _ _ h=>h
 generalize upT t w (m+8)=t1 at*;obtain⟨j0,j1,j2,j3⟩:=hB.cs;obtain⟨k0,k1,-,-⟩:=BV.b.c2;have hk0:=hB.look a ha _ hL V.drew rfl;go_region
 have sd:Stp (fun _=>False) V t1 V.drew t1:=(Stp.refl _ _ _).drew
 have hB1:=hB.keep sd fun _ _ h=>h
 have BV1:=BV.keep sd id;have s1:=s0.trans sd fun _ h=>h
 clear hk0 hB BV s0 sd j0 j1 j2 j3 k0 k1;obtain⟨W,hW2⟩: ∃W,W=V.drew:=⟨_,rfl⟩;rw[<- hW2]at hB1 BV1 s1⊢;clear hW2;obtain⟨j0,j1,j2,j3⟩:=hB1.cs;have hX:=hB1.x _ (cZ hL);have x0:W.cell? ⟨gx,0,none⟩=some (nV x.at_):=hX.b.cell 0;go_wp2_with fail
 refine(hP W j0).mono ?_;rintro e w1 ⟨rfl,q,rfl⟩;have x3:W.cell? ⟨gx,3,none⟩=some (nV x.level):=hX.b.cell 3;have x4:W.cell? ⟨gx,4,none⟩=some (nV x.slot):=hX.b.cell 4;have f3:W.frozen? ⟨gx,3,none⟩=false:=hX.b.frozen 3;have f4:W.frozen? ⟨gx,4,none⟩=false:=hX.b.frozen 4;go_upto_region 3 with(fail)
 have hD:BT (W.drewN q) t1 (m+7) gx 213 (MZ x):=hX.drewN q;obtain⟨hX1,z1⟩:=hD.aH 3 (.int .i64 (lv:Int));obtain⟨hX2,z2⟩:=hX1.aH 4 (.int .i64 (sl:Int));have zX:Stp (fun y=>y=m+7) W t1 _ t1:=(((Stp.refl _ W t1).drewN q).trans z1 fun _ h=>h).trans z2 fun _ h=>h
 have ho: ∀k,k≠gx-> ∀(i:Nat) (u:Value) (U:World),(U.setCell ⟨gx,i,none⟩ u).heap[k]? = U.heap[k]? := fun k hk i u U=>by simp[World.setCell,Array.getElem?_modify,Ne.symm hk]
 have hB2:=hB1.tim (x':= { x with level:=lv,slot:=sl }) hL zX (hX2.to (by simp[MZ])) fun k hk _=>by rw[ho k hk,ho k hk];rfl
 have BV2:=BV1.keep zX (by omega)
 have s2:=(s1.mono (S':=Mk m 340) fun _ h=>h.elim).trans zX fun y (h:y=m+7)=>(show Mk m 340 y by omega)
 clear hP hX x0 x3 x4 f3 f4 hD hX1 hX2 z1 z2 zX ho BV1 hB1 s1 j0 j1 j2 j3;obtain⟨U,hU⟩: ∃U,U=(((W.drewN q).setCell ⟨gx,3,none⟩ (.int .i64 (lv:Int))).setCell ⟨gx,4,none⟩ (.int .i64 (sl:Int))):=⟨_,rfl⟩;rw[<- hU]at hB2 BV2 s2⊢;clear hU;have hL2:(a,(gx,{ x with level:=lv,slot:=sl }))∈dL T a (gx,{ x with level:=lv,slot:=sl }):=by
  rw[<- rV hL];rw[rV hL,dL,List.mem_map];exact⟨_,cZ hL,by simp⟩
 have hY:=(hB2.x _ hL2).b;have y3:U.cell? ⟨gx,3,none⟩=some (nV lv):=hY.cell 3;have y4:U.cell? ⟨gx,4,none⟩=some (nV sl):=hY.cell 4;have hlv:lv<5:=hlt.1;have hsl:sl<64:=hlt.2;have c0:U.cell? ⟨g,4+lv*64+sl,none⟩=some (.map (some (LB (lv*64+sl)))):=by rw[Nat.add_assoc];exact hB2.at_ _ (by omega)
 obtain⟨k0,k1,-,-⟩:=BV2.b.c2;have hz:=hB2.z (lv*64+sl) (by omega)
 have e1:(lv*64+sl) / 64=lv:=by omega
 have e2:(lv*64+sl) % 64=sl:=by omega
 rw[e1,e2]at hz;obtain⟨w3,hrun,hA3,hS3⟩:=(show MT U.drew t1 _ _ hnV iH Value.bool _ from hz).put uQ Tryz.underlying136 a ha true
 have hl1:(lv:Int)<5:=by omega
 have hl2:(sl:Int)<64:=by omega
 clear e1 e2;go_region
 have z3:Stp (fun y=>y=m+20+(lv*64+sl)) U t1 w3 t1:=((Stp.refl _ U t1).drew).trans (hS3 (fun y=>y=m+20+(lv*64+sl)) rfl) fun _ h=>h
 have hB3:=hB2.list hlv hsl z3 hA3;go_end0
 refine⟨rfl,t1,?_,s2.trans z3 fun y (h:y=m+20+(lv*64+sl))=>(show Mk m 340 y by omega)⟩
 rw[hW.out];exact⟨gs,bt,LB,_,hB3⟩
theorem EU (w:World) (t:Nat-> Nat) (m g:Nat) (s:WhS) (gs bt:Nat) (LB:Nat-> Nat) (T:TL) (a:Hn) (x:jh) (h:WhB w t m g s gs bt LB T) (ha:iH a) (hx:aT s.dZ a=some x) (hlv:x.level<5) (hsl:x.slot<64):
 Calls Tryz.prog 117 #[pV g,hnV a] w fun e w'=>e= .returned (.tuple #[])/\ ∃t',WhB w' t' m g (fV s a x) gs bt LB T/\ Stp (Mk m 340) w t w' t':=by
 obtain⟨gx,hL⟩:=h.found hx;have hW:=Lib.hid (show fV s a x= { s with lists:=upL s.lists x.level x.slot (jO (s.lists x.level x.slot) a) } from rfl)
 go_enter Tryz.func117,Tryz.ntmps117
 go_upto_region 1 with(fail)
 obtain⟨V,hV⟩: ∃V,V=w.alloc (.cells #[.int .i64 a.1,.int .i64 a.2] 72):=⟨_,rfl⟩;rw[<- hV];have s0:Stp (fun _=>False) w t V (upT t w (m+8)):=by rw[hV];exact Stp.alloc w t _ _ _
 have BV:BT V (upT t w (m+8)) (m+8) w.heap.size 72 #[.int .i64 a.1,.int .i64 a.2]:=by rw[hV];exact BT.new' _ _ _ _ rfl _ _
 clear hV;have hB:=h.keep s0 fun _ _ h=>h
 generalize upT t w (m+8)=t1 at*;obtain⟨j0,j1,j2,j3⟩:=hB.cs;obtain⟨k0,k1,-,-⟩:=BV.b.c2;have hk0:=hB.look a ha _ hL V.drew rfl;go_region
 have sd:Stp (fun _=>False) V t1 V.drew t1:=(Stp.refl _ _ _).drew
 have hB1:=hB.keep sd fun _ _ h=>h
 have BV1:=BV.keep sd id;have s1:=s0.trans sd fun _ h=>h
 clear hk0 hB BV s0 sd j0 j1 j2 j3 k0 k1;obtain⟨U,hW2⟩: ∃W,W=V.drew:=⟨_,rfl⟩;rw[<- hW2]at hB1 BV1 s1⊢;clear hW2;obtain⟨lv,hlvx⟩: ∃lv,lv=x.level:=⟨_,rfl⟩;obtain⟨sl,hslx⟩: ∃sl,sl=x.slot:=⟨_,rfl⟩;have hY:=(hB1.x _ (cZ hL)).b;have y3:U.cell? ⟨gx,3,none⟩=some (nV lv):=by rw[hlvx];exact hY.cell 3
 have y4:U.cell? ⟨gx,4,none⟩=some (nV sl):=by rw[hslx];exact hY.cell 4
 rw[<- hlvx]at hlv hW;rw[<- hslx]at hsl hW;have c0:U.cell? ⟨g,4+lv*64+sl,none⟩=some (.map (some (LB (lv*64+sl)))):=by rw[Nat.add_assoc];exact hB1.at_ _ (by omega)
 obtain⟨k0,k1,-,-⟩:=BV1.b.c2;have hz:=hB1.z (lv*64+sl) (by omega)
 have e1:(lv*64+sl) / 64=lv:=by omega
 have e2:(lv*64+sl) % 64=sl:=by omega
 rw[e1,e2]at hz;obtain⟨w3,hrun,hA3,hS3⟩:=(show MT U.drew t1 _ _ hnV iH Value.bool _ from hz).del uQ Tryz.underlying136 0 a ha
 have hl1:(lv:Int)<5:=by omega
 have hl2:(sl:Int)<64:=by omega
 clear e1 e2 hlvx hslx hY;go_upto_region 2 with(fail)
 go_region
 have z3:Stp (fun y=>y=m+20+(lv*64+sl)) U t1 w3 t1:=((Stp.refl _ U t1).drew).trans (hS3 (fun y=>y=m+20+(lv*64+sl)) rfl) fun _ h=>h
 have hB3:=hB1.list hlv hsl z3 hA3;go_end0
 refine⟨rfl,t1,?_,(s1.mono (S':=Mk m 340) fun _ h=>h.elim).trans z3 fun y (h:y=m+20+(lv*64+sl))=>(show Mk m 340 y by omega)⟩
 rw[hW.out];exact hB3
section
variable {α β:Type} [DecidableEq α]
theorem Q9 (l:List (α×β)) (a:α) (b c:β):dL (dL l a b) a c=dL l a c:=by
 simp only[dL,List.map_map];refine List.map_congr_left fun p _=> ?_
 by_cases h:p.1=a<;>simp[h]
theorem Rf (l:List (α×β)) (a:α) (b:β) (h:jD l a=true):jD (dL l a b) a=true:=by
 rw[jD,List.any_eq_true]at h⊢;obtain⟨p,hp,he⟩:=h;exact⟨(a,b),by rw[dL,List.mem_map];exact⟨p,hp,by rw[if_pos (by simpa using he)]⟩,by simp⟩
theorem oq (l:List (α×β)) (a:α) (b c:β):bK (bK l a b) a c=bK l a c:=by
 cases h:jD l a with
 |true=>rw[bK,bK,h,if_pos rfl,Rf l a b h,if_pos rfl,Q9,bK,h,if_pos rfl]
 |false=>
  have hn:=(rD l a).1 h;have h1:bK l a b=l++ [(a,b)]:=by rw[bK,h];rfl
  have h2:bK l a c=l++ [(a,c)]:=by rw[bK,h];rfl
  rw[h1,h2,bK,show jD (l++ [(a,b)]) a=true by simp[jD],if_pos rfl]
  rw[show dL (l++ [(a,b)]) a c=dL l a c++ [(a,c)] by simp[dL],zO l a c hn]
theorem wR (l:List (α×β)) (a:α) (b:β):aT (bK l a b) a=some b:=by
 cases h:jD l a with
 |true=>
  rw[bK,h,if_pos rfl];have: ∀l:List (α×β),jD l a=true-> aT (dL l a b) a=some b:=by
   intro l
   induction l with
   |nil=>intro h;simp[jD]at h
   |cons p l ih=>
    intro h;by_cases hp:p.1=a
    ·simp[aT,dL,hp]
    ·have:jD l a=true:=by simpa [jD,hp] using h
     have:=ih this;simpa [aT,dL,hp] using this
  exact this l h
 |false=>
  have hn:=(rD l a).1 h;rw[bK,h];simp only[aT,Bool.false_eq_true,if_false,List.find?_append];rw[List.find?_eq_none.2 (by intro p hp;simpa using hn p hp)]
  simp
end
theorem WhB.order {w:World} {t:Nat-> Nat} {m g:Nat} {s:WhS} {gs bt:Nat} {LB:Nat-> Nat} {T:TL} (h:WhB w t m g s gs bt LB T) (o:Nat):
 WhB (w.setCell ⟨g,1,none⟩ (nV o)) t m g { s with order:=o } gs bt LB T/\ Stp (fun y=>y=m) w t (w.setCell ⟨g,1,none⟩ (nV o)) t:=by
 obtain⟨b1,z1⟩:=h.b.aH 1 (nV o);exact⟨⟨b1.to (Na ..),h.sb.keep z1 (by omega) (by omega),h.a.keep z1 (by omega),h.l,h.d,fun y hy=>(h.x y hy).keep z1 (by omega),fun k hk=>(h.z k hk).keep z1 (by omega)⟩,z1⟩
theorem uY (w:World) (n:Nat) (h:n<= 1000000):Calls Tryz.prog 113 #[nV n] w fun e w'=>e= .returned (.bool true)/\ w=w':=by
 have h1:(n:Int)<= 1099511627776:=by omega
 go_enter Tryz.func113,Tryz.ntmps113
 go_wp2
 go_ret
 exact⟨rfl,rfl⟩
theorem Zf (w:World) (t:Nat-> Nat) (m g:Nat) (s:WhS) (h:WhK w t m g s):
 Calls Tryz.prog 27 #[pV g] w fun e w'=>e= .returned (nV s.dZ.length)/\ ∃q,w'=w.drewN q:=by
 obtain⟨gs,bt,LB,T,h⟩:=h;obtain⟨j0,j1,j2,j3⟩:=h.cs;have hl:=fun ty=>h.a.len Tryz.underlying135 ty
 have e1:T.length=s.dZ.length:=by rw[<- h.l];simp
 rw[<- e1];clear h e1;go_enter Tryz.func27,Tryz.ntmps27
 go_wp2_with fail
 go_ret
 exact⟨rfl,0,rfl⟩
theorem Zg (w:World) (t:Nat-> Nat) (m g:Nat) (s:WhS) (h:WhK w t m g s):
 Calls Tryz.prog 67 #[pV g] w fun e w'=>e= .returned (nV s.now)/\ ∃q,w'=w.drewN q:=by
 obtain⟨gs,bt,LB,T,h⟩:=h;obtain⟨j0,j1,j2,j3⟩:=h.cs;clear h;go_enter Tryz.func67,Tryz.ntmps67
 go_wp2_with fail
 go_ret
 exact⟨rfl,0,rfl⟩
theorem Rh (w:World) (t:Nat-> Nat) (m g:Nat) (s:WhS) (a:Hn) (x:jh) (n:Nat) (h:WhK w t m g s) (ha:iH a) (hx:aT s.dZ a=some x) (hlv:x.level<5) (hsl:x.slot<64) (h1:s.now<4096) (h2:n<4096) (h3:s.order<= 1000000) (hm:2<= m):
 Calls Tryz.prog 138 #[pV g,hnV a,nV n] w fun e w'=>e= .returned (.int .i64 0)/\ ∃t',WhK w' t' m g (rJ s a n)/\ Stp (Mk m 340) w t w' t':=by
 have hT:=fun w=>uY w n (by omega)
 have hW:rJ s a n=iG { fV s a x with order:=s.order+1 } a { x with at_:=n,order:=s.order+1 } :=by rw[rJ,hx]
 rw[hW];clear hW;obtain⟨gs,bt,LB,T,h⟩:=h;obtain⟨gx,hL⟩:=h.found hx;have hF:=fun w t (h:WhB w t m g s gs bt LB T)=>EU w t m g s gs bt LB T a x h ha hx hlv hsl
 go_enter Tryz.func138,Tryz.ntmps138
 go_upto_region 1 with(fail)
 obtain⟨V,hV⟩: ∃V,V=w.alloc (.cells #[.int .i64 a.1,.int .i64 a.2] 72):=⟨_,rfl⟩;rw[<- hV];have s0:Stp (fun _=>False) w t V (upT t w 1):=by rw[hV];exact Stp.alloc w t _ _ _
 have BV:BT V (upT t w 1) 1 w.heap.size 72 #[.int .i64 a.1,.int .i64 a.2]:=by rw[hV];exact BT.new' _ _ _ _ rfl _ _
 clear hV;have hB:=h.keep s0 fun _ _ h=>h
 generalize upT t w 1=t1 at*;go_wp2_with fail
 refine(hT V).mono ?_;rintro e w1 ⟨rfl,rfl⟩;obtain⟨j0,j1,j2,j3⟩:=hB.cs;obtain⟨k0,k1,-,-⟩:=BV.b.c2;have hk0:=hB.look a ha _ hL V.drew rfl;go_upto_region 3 with(fail)
 go_region
 have sd:Stp (fun _=>False) V t1 V.drew t1:=(Stp.refl _ _ _).drew
 have hB1:=hB.keep sd fun _ _ h=>h
 have BV1:=BV.keep sd id;have s1:=s0.trans sd fun _ h=>h
 clear hk0 hB BV s0 sd j0 j1 j2 j3 k0 k1;obtain⟨U,hW2⟩: ∃W,W=V.drew:=⟨_,rfl⟩;rw[<- hW2]at hB1 BV1 s1⊢;clear hW2;obtain⟨k0,k1,-,-⟩:=BV1.b.c2;go_wp2_with fail
 refine(hF U t1 hB1).mono ?_;rintro e w3 ⟨rfl,t3,hB3,s3⟩;have BV3:=BV1.keep s3 (by omega)
 have sA:=(s1.mono (S':=Mk m 340) fun _ h=>h.elim).trans s3 fun _ h=>h
 clear hF hB1 BV1 s1 s3 k0 k1;obtain⟨j0,j1,j2,j3⟩:=hB3.cs;replace j1:w3.cell? ⟨g,1,none⟩=some (nV s.order):=j1;have f1:w3.frozen? ⟨g,1,none⟩=false:=hB3.b.b.frozen 1;have hX:=hB3.x _ (cZ hL);obtain⟨x0,x1,x2,x3,x4,z0,z1,z2,z3,z4⟩:=hX.b.c5;have hne:g≠gx:=hB3.b.ne hX (by omega)
 go_upto_region 9 with(fail)
 have hD:WhB (w3.setCell ⟨g,1,none⟩ (.int .i64 ((s.order:Int)+1))) t3 m g { fV s a x with order:=s.order+1 } gs bt LB T/\ Stp (fun y=>y=m) w3 t3 (w3.setCell ⟨g,1,none⟩ (.int .i64 ((s.order:Int)+1))) t3:=hB3.order (s.order+1)
 obtain⟨hB4,s4⟩:=hD;obtain⟨hX5,z5⟩:=(hB4.x _ (cZ hL)).aH 0 (.int .i64 (n:Int));obtain⟨hX6,z6⟩:=hX5.aH 2 (.int .i64 ((s.order:Int)+1));have zX:=z5.trans z6 fun _ h=>h
 have ho: ∀k,k≠gx-> ∀(i:Nat) (u:Value) (U:World),(U.setCell ⟨gx,i,none⟩ u).heap[k]? = U.heap[k]? := fun k hk i u U=>by simp[World.setCell,Array.getElem?_modify,Ne.symm hk]
 have hB6:=hB4.tim (x':= { x with at_:=n,order:=s.order+1 }) hL zX (hX6.to (by simp[MZ])) fun k hk _=>by rw[ho k hk,ho k hk]
 have BV6:=(BV3.keep s4 (by omega)).keep zX (by omega)
 have sB:=(sA.trans s4 fun y (h:y=m)=>(show Mk m 340 y by omega)).trans zX fun y (h:y=m+7)=>(show Mk m 340 y by omega)
 clear hB3 BV3 sA s4 hB4 hX5 z5 hX6 z6 zX ho hX x0 x1 x2 x3 x4 z0 z1 z2 z3 z4 j0 j1 j2 j3 f1;obtain⟨U,hU⟩: ∃U,U=((w3.setCell ⟨g,1,none⟩ (.int .i64 ((s.order:Int)+1))).setCell ⟨gx,0,none⟩ (.int .i64 (n:Int))).setCell ⟨gx,2,none⟩ (.int .i64 ((s.order:Int)+1)):=⟨_,rfl⟩;rw[<- hU]at hB6 BV6 sB⊢;clear hU;obtain⟨k0,k1,-,-⟩:=BV6.b.c2;have hLY:=CB U t3 m g _ a { x with at_:=n,order:=s.order+1 } ⟨gs,bt,LB,_,hB6⟩ ha (wR _ _ _) h1 h2
 have hQ:iG { { fV s a x with order:=s.order+1 } with dZ:=bK (fV s a x).dZ a { x with at_:=n,order:=s.order+1 } } a { x with at_:=n,order:=s.order+1 } =iG { fV s a x with order:=s.order+1 } a { x with at_:=n,order:=s.order+1 } :=by
  unfold iG;simp only[oq]
 rw[hQ]at hLY;clear hQ;go_wp2_with fail
 refine hLY.mono ?_;rintro e w9 ⟨rfl,t9,hE,s9⟩;go_wp2_with fail
 go_ret
 exact⟨rfl,t9,hE,sB.trans s9 fun _ h=>h⟩
theorem CG (w:World) (t:Nat-> Nat) (m gn g mn:Nat) (n:cu) (p:fK) (z:Int) (rb wb:Bool) (h:pO w t m gn g p) (hid:z= -1\/ ∃(i:Nat) (x:NC),z=(i:Int)/\ fP w t mn gn n/\ n.aG[i]? = some x/\ x.op=true)
 (hno: ∀x∈p.all,x.2.id≠z) (hok:qK p.dN=true):
 Calls Tryz.prog 66 #[pV g,.int .i64 z,.bool rb,.bool wb,.bool false] w fun e w'=>e= .returned (.tuple #[hnV (mO p z rb wb).2,.int .i64 0])/\ ∃t',pO w' t' m gn g (mO p z rb wb).1/\ Stp (Mk m 10) w t w' t':=by
 obtain⟨gs,b,L,h⟩:=h;have hO:=BP hok z;have hP:=fun wr t2 (h:jT wr t2 (m+1) gs p.dN)=>Oo wr t2 (m+1) gs p.dN z h hok
 have hnoL: ∀y∈L,(y.2.2.id==z)=false:=fun y hy=>beq_false_of_ne (hno (y.1,y.2.2) (by rw[<- h.l];exact List.mem_map_of_mem (f:=fun x:Hn×(Nat×WS)=>(x.1,x.2.2)) hy))
 have hW:mO p z rb wb=(⟨(dQ p.dN z).1,bK p.all (dQ p.dN z).2 ⟨z,rb,wb⟩⟩,(dQ p.dN z).2):=rfl;rw[hW];clear hW;obtain⟨⟨Z1,q⟩,hZ⟩: ∃Z,Z=dQ p.dN z:=⟨_,rfl⟩;simp only[<- hZ]at hO hP⊢;clear hZ hno;go_enter Tryz.func66,Tryz.ntmps66
 go_upto_region 3 with(fail)
 obtain⟨V,hV⟩: ∃V,V=w.alloc (.cells #[.int .i64 0,.int .i64 0] 72):=⟨_,rfl⟩;rw[<- hV];have s0:Stp (fun _=>False) w t V (upT t w (m+8)):=by rw[hV];exact Stp.alloc w t _ _ _
 have BV:BT V (upT t w (m+8)) (m+8) w.heap.size 72 #[.int .i64 0,.int .i64 0]:=by rw[hV];exact BT.new' _ _ _ _ rfl _ _
 clear hV;have hB:=h.keep s0 fun _ _ h=>h
 generalize upT t w (m+8)=t1 at*;have hf: ∀(a b c:Bool) (d:Nat) (w:World),(Instr.field 91 (.agg #[.bool a,.bool b,.bool c,nV d]) 1).run Tryz.prog w= .ok (.bool b) w:=fun _ _ _ _ _=>by kernel_rfl
 rcases hid with hz| ⟨i,x,hz,hN,hx,ho⟩
 focus
  have d1:(z != -1)=false:=bne_eq_false_iff_eq.2 hz;clear hz;go_upto_region 5 with(fail)
  clear d1
 rotate_left
 focus
  have hNV:=hN.keep s0 fun _ _ h=>h
  have hS:Calls Tryz.prog 54 #[pV gn,.int .i64 z] V fun e w'=>e= .returned (.agg #[.bool x.waits,.bool x.op,.bool x.broken,nV x.peer])/\ Below V.heap.size V w':=by
   rw[hz];exact ET V t1 mn gn n i x hNV hx
  obtain⟨j0,j1,j2,-,-,-⟩:=hB.b.b.c3;have d1:(z != -1)=true:=bne_iff_ne.2 (by omega)
  clear hz;go_upto_region 5 with(fail)
  refine hS.mono ?_;rintro e w1 ⟨rfl,L1⟩;rw[ho];go_upto_region 5 with(fail)
  have hB1:=hB.keep (Stp.below L1 (fun _=>False) t1) fun _ _ h=>h
  have BV1:=BV.ah L1;have s1:=s0.trans (Stp.below L1 (fun _=>False) t1) fun _ h=>h
  clear hB BV s0 j0 j1 j2 d1 hS hNV hN hx ho L1;obtain⟨hB,BV,s0⟩:=And.intro hB1 (And.intro BV1 s1);clear hB1 BV1 s1;clear V;obtain⟨V,hV⟩: ∃V,V=w1:=⟨_,rfl⟩;subst hV
 all_goals
  obtain⟨j0,j1,j2,-,-,-⟩:=hB.b.b.c3;go_wp2_with (at_range;go_must (refine Au rfl _ 122 rfl Tryz.underlying122 hB.a rfl (m+9) ?_;intro w2 hMR hS2;go_frame))
  have s2:=s0.trans (hS2 (fun _=>False)) fun _ h=>h
  have hB2:=hB.keep (hS2 (fun _=>False)) fun _ _ h=>h
  have BV2:=BV.keep (hS2 (fun _=>False)) id
  generalize upT t1 V (m+9)=t2 at*;clear hB BV s0 j0 j1 j2 hS2;go_loopw [13] (fun _ wr=> ∃todo,MR wr t2 (m+6) (m+9) b V.heap.size hnV iH (fun y:Nat×WS=>pV y.1) L todo/\ Stp (fun x=>x=m+9) w2 t2 wr t2) (fun _ wr=>Az wr b V.heap.size)
  case atStart=>exact⟨L,hMR,Stp.refl _ _ _⟩
  case round=>
   obtain⟨todo,hMw,sw⟩:=hrel;have hBw:=hB2.keep sw fun y hy=>by omega
   have BVw:=BV2.keep sw (by omega)
   go_wp2_with (at_next;go_must (refine F8 rfl _ rfl hMw rfl ?_ ?_))
   ·intro h0
    have hP:=hP _ _ hBw.s;obtain⟨j0,j1,j2,-,-,-⟩:=hBw.b.b.c3;go_wp2_with fail
    refine hP.mono ?_;rintro e w5 ⟨rfl,t5,hs5,st5⟩;have hB5:=hBw.b.keep st5 (by omega)
    have hA5:=hBw.a.keep st5 (by omega)
    have hX5: ∀y∈L,BT w5 t5 (m+7) y.2.1 176 (wsC y.2.2):=fun y hy=>(hBw.x y hy).keep st5 (by omega)
    have BV5:=BVw.keep st5 (by omega)
    clear hP j0 j1 j2;go_upto_region 13 with(fail)
    obtain⟨U,hU⟩: ∃U,U=w5.alloc (.cells #[.int .i64 q.1,.int .i64 q.2] 72):=⟨_,rfl⟩;rw[<- hU];have s6:Stp (fun _=>False) w5 t5 U (upT t5 w5 (m+8)):=by rw[hU];exact Stp.alloc _ _ _ _ _
    have BU:BT U (upT t5 w5 (m+8)) (m+8) w5.heap.size 72 #[.int .i64 q.1,.int .i64 q.2]:=by rw[hU];exact BT.new' _ _ _ _ rfl _ _
    clear hU;have hB6:=hB5.keep s6 id;have hA6:=hA5.keep s6 id;have hS6:=hs5.keep s6 id id;have hX6: ∀y∈L,BT U (upT t5 w5 (m+8)) (m+7) y.2.1 176 (wsC y.2.2):=fun y hy=>(hX5 y hy).keep s6 id
    have BV6:=BV5.keep s6 id;have s7:Stp (Mk m 10) w t U (upT t5 w5 (m+8)):=(((s2.mono (S':=Mk m 10) fun _ h=>h.elim).trans sw fun y (h:y=m+9)=>(show Mk m 10 y by omega)).trans st5 fun y (h:jf (m+1) y)=>(show Mk m 10 y by omega)).trans s6 fun _ h=>h.elim
    clear s2 sw st5 s6 hB5 hA5 hs5 hX5 BV5 hMw hBw BVw;generalize upT t5 w5 (m+8)=t6 at*;obtain⟨j0,j1,j2,-,-,-⟩:=hB6.b.c3;obtain⟨k0,k1,-,-⟩:=BU.b.c2;have sX:=(Stp.alloc U t6 (fun _=>False) (.cells #[.int .i64 z,.bool rb,.bool wb,.bool false,.int .i64 0,.int .i64 0] 176) (m+7)).drew
    have hXn:=(BT.new' U t6 (m+7) U.heap.size rfl 176 #[.int .i64 z,.bool rb,.bool wb,.bool false,.int .i64 0,.int .i64 0]).drew;obtain⟨w8,hrun,hA8,hS8⟩:=(hA6.keep sX id).put uQ Tryz.underlying122 q hO (U.heap.size,WS.mk z rb wb);have l5:w5.heap.size<U.heap.size:=BU.lt;have l6:g<U.heap.size:=hB6.lt;go_region
    have z8:=hS8 (fun x=>x=m+6) rfl
    have hB8:=(hB6.keep sX id).keep z8 (by omega)
    have hS9:=(hS6.keep sX id id).keep z8 (by omega) (by omega)
    have hX8: ∀y∈L,BT w8 (upT t6 U (m+7)) (m+7) y.2.1 176 (wsC y.2.2):=fun y hy=>((hX6 y hy).keep sX id).keep z8 (by omega)
    have hXn8:=hXn.keep z8 (by omega)
    have BV8:=(BV6.keep sX id).keep z8 (by omega)
    have BU8:=(BU.keep sX id).keep z8 (by omega)
    have s8:=(s7.trans sX fun _ h=>h.elim).trans z8 fun y (h:y=m+6)=>(show Mk m 10 y by omega)
    have hdN:=JB L U.heap.size (fun y hy=>(hX6 y hy).lt) h.d h.a.2.2.1 q (WS.mk z rb wb)
    have hlN:(bK L q (U.heap.size,WS.mk z rb wb)).map (fun x=>(x.1,x.2.2))=bK p.all q ⟨z,rb,wb⟩:=by
     rw[<- h.l];exact(nU (fun y:Nat×WS=>y.2) L q (U.heap.size,WS.mk z rb wb)).symm
    have hE:pO w8 (upT t6 U (m+7)) m gn g ⟨Z1,bK p.all q ⟨z,rb,wb⟩⟩:=⟨gs,b,_,hB8,hS9,hA8,hlN,hdN,fun y hy=>by
     rcases Jw hy with hy|rfl
     ·exact hX8 y hy
     ·exact hXn8⟩
    obtain⟨y0,y1,yf0,yf1⟩:=BV8.b.c2;obtain⟨v0,v1,-,-⟩:=BU8.b.c2;clear hB6 hA6 hS6 hX6 BV6 BU s7 sX hXn hrun hA8 hS8 z8 hB8 hS9 hX8 hXn8 j0 j1 j2 k0 k1 hdN hlN;go_wp2_with fail
    obtain⟨c1,z1⟩:=BV8.aH 0 (.int .i64 q.1);obtain⟨c2,z2⟩:=c1.aH 1 (.int .i64 q.2);have sV:=z1.trans z2 fun _ h=>h
    have hE9:=hE.keep sV fun y hy=>by omega
    obtain⟨r0,r1,-,-⟩:=(c2.to (cs':=#[.int .i64 q.1,.int .i64 q.2]) (by simp)).b.c2
    refine bodyPost_ret (v:=.tuple #[hnV q,.int .i64 0]) (by simp[results,Tryz.results66,go_sem,r0,r1]) rfl ⟨rfl,_,hE9,s8.trans sV fun y (h:y=m+8)=>(show Mk m 10 y by omega)⟩
   ·intro q1 q2 qg qx todo' w3 hq hp hM3 hs3 hen
    have hBw3:=hBw.b.keep (hs3 (fun x=>x=m+9) rfl) (by omega)
    have hXw3:=(hBw.x _ hq).keep (hs3 (fun x=>x=m+9) rfl) (by omega)
    have x0:w3.cell? ⟨qg,0,none⟩=some (.int .i64 qx.id):=hXw3.b.cell 0;have d1:=hnoL _ hq;simp only at d1;go_wp2_with fail
    go_roundw
    case rel=>exact⟨todo',hM3,sw.trans (hs3 (fun x=>x=m+9) rfl) fun _ h=>h⟩
    case measure=>rw[hM3.come,hMw.come,hp.length_eq];simp
end Go.Proofs.YtdmondfpepbniaaGreatDoor
