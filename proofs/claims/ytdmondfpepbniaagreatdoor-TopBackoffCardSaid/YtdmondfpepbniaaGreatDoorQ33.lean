/- Part 33 of the proof: VwC Vm VwN. -/
import Derived.Test.YtdmondfpepbniaaGreatDoorQ29
import Derived.Test.YtdmondfpepbniaaGreatDoorQ31
import Derived.Test.YtdmondfpepbniaaGreatDoorQ32
namespace Go.Proofs.YtdmondfpepbniaaGreatDoor
open Go.RowKit
set_option maxRecDepth 100000
set_option maxHeartbeats 4000000
set_option linter.all false
section
variable {w w':World} {t t':Nat-> Nat} {m g:Nat} {s:WhS} {gs bt:Nat} {LB:Nat-> Nat} {T:TL}
theorem WhB.add {q:Hn} {gx:Nat} {x:jh} (h:WhB w t m g s gs bt LB T) (hgx: ∀y∈T,y.2.1<gx) (hA:MT w' t' (m+6) bt hnV iH (fun y:Nat×jh=>pV y.1) (bK T q (gx,x))) (hX:BT w' t' (m+7) gx 213 (MZ x)) (st:Stp (fun y=>y=m+6) w t w' t'):
 WhB w' t' m g { s with dZ:=bK s.dZ q x } gs bt LB (bK T q (gx,x)):=by
 refine⟨h.b.keep st (by omega),h.sb.keep st (by omega) (by omega),hA,?_,JB T gx hgx h.d h.a.2.2.1 q x,fun y hy=> ?_,fun k hk=>(h.z k hk).keep st (by omega)⟩
 ·rw[<- h.l]
  exact(nU (fun y:Nat×jh=>y.2) T q (gx,x)).symm
 ·rcases Jw hy with hy|rfl
  ·exact(h.x y hy).keep st (by omega)
  ·exact hX
theorem WhB.dN {s':iU} (h:WhB w t m g s gs bt LB T) (hS:jT w' t' (m+1) gs s') (st:Stp (jf (m+1)) w t w' t'):WhB w' t' m g { s with dN:=s' } gs bt LB T:=
 ⟨h.b.keep st (by omega),hS,h.a.keep st (by omega),h.l,h.d,fun y hy=>(h.x y hy).keep st (by omega),fun k hk=>(h.z k hk).keep st (by omega)⟩
end
theorem OG (w:World) (t:Nat-> Nat) (m g:Nat) (s:WhS) (n:Nat) (z:Int) (h:WhK w t m g s) (h1:s.now<4096) (h2:n<4096) (h3:s.order<= 1000000) (hm:2<= m) (hok:qK s.dN=true) (hm2:m+340<= 1000000):
 Calls Tryz.prog 139 #[pV g,nV n,.int .i64 z] w fun e w'=>e= .returned (.tuple #[hnV (nK s n z).2,.int .i64 0])/\ ∃t',WhK w' t' m g (nK s n z).1/\ Stp (Mk m 340) w t w' t':=by
 have hT:=fun w=>uY w n (by omega)
 have hO:=BP hok z;have hP:=fun wr t2 (gs:Nat) (h:jT wr t2 (m+1) gs s.dN)=>Oo wr t2 (m+1) gs s.dN z h hok
 have hW:nK s n z=(iG { s with dN:=(dQ s.dN z).1,order:=s.order+1 } (dQ s.dN z).2 ⟨n,z,s.order+1,0,0⟩,(dQ s.dN z).2):=rfl
 rw[hW];clear hW;obtain⟨⟨Z1,q⟩,hZ⟩: ∃Z,Z=dQ s.dN z:=⟨_,rfl⟩;simp only[<- hZ]at hO hP⊢;clear hZ;obtain⟨gs,bt,LB,T,h⟩:=h;obtain⟨τ,hτ,hfr⟩:=dW w t;go_enter Tryz.func139,Tryz.ntmps139
 go_upto_region 1 with(fail)
 obtain⟨V,hV⟩: ∃V,V=w.alloc (.cells #[.int .i64 0,.int .i64 0] 72):=⟨_,rfl⟩;rw[<- hV];have s0:Stp (fun _=>False) w t V (upT t w τ):=by rw[hV];exact Stp.alloc w t _ _ _
 have BV:BT V (upT t w τ) τ w.heap.size 72 #[.int .i64 0,.int .i64 0]:=by rw[hV];exact BT.new' _ _ _ _ rfl _ _
 clear hV;have hB:=h.keep s0 fun _ _ h=>h
 generalize upT t w τ=t1 at*;obtain⟨j0,j1,j2,j3⟩:=hB.cs;go_wp2_with fail
 refine(hT V).mono ?_;rintro e w1 ⟨rfl,rfl⟩;go_wp2_with fail
 refine(hP V t1 gs hB.sb).mono ?_;rintro e w2 ⟨rfl,t2,hs2,s2⟩;have hB2:=hB.dN hs2 s2;have BV2:=BV.keep s2 (by omega)
 have sA:=(s0.mono (S':=Mk m 340) fun _ h=>h.elim).trans s2 fun y (h:jf (m+1) y)=>(show Mk m 340 y by omega)
 clear hP hT hB BV s0 hs2 s2 j0 j1 j2 j3;go_upto_region 4 with(fail)
 have sU:Stp (fun _=>False) w2 t2 (w2.alloc (.cells #[.int .i64 q.1,.int .i64 q.2] 72)) (upT t2 w2 τ):=Stp.alloc _ _ _ _ _
 have BU:=BT.new' w2 t2 τ w2.heap.size rfl 72 #[.int .i64 q.1,.int .i64 q.2];obtain⟨U,hU⟩: ∃U,U=w2.alloc (.cells #[.int .i64 q.1,.int .i64 q.2] 72):=⟨_,rfl⟩;rw[<- hU]at sU BU⊢;clear hU;have hB3:=hB2.keep sU fun _ _ h=>h
 have BV3:=BV2.keep sU id;have sC:=sA.trans sU fun _ h=>h.elim
 generalize upT t2 w2 τ=t3 at*;clear hB2 BV2 sA sU;obtain⟨j0,j1,j2,j3⟩:=hB3.cs;replace j1:U.cell? ⟨g,1,none⟩=some (nV s.order):=j1;have f1:U.frozen? ⟨g,1,none⟩=false:=hB3.b.b.frozen 1;go_upto_region 7 with(fail)
 have hD:WhB (U.setCell ⟨g,1,none⟩ (.int .i64 ((s.order:Int)+1))) t3 m g { s with dN:=Z1,order:=s.order+1 } gs bt LB T/\ Stp (fun y=>y=m) U t3 (U.setCell ⟨g,1,none⟩ (.int .i64 ((s.order:Int)+1))) t3:=hB3.order (s.order+1)
 obtain⟨hB4,s4⟩:=hD;have BV4:=BV3.keep s4 (by omega)
 have BU4:=BU.keep s4 (by omega)
 have sD:=sC.trans s4 fun y (h:y=m)=>(show Mk m 340 y by omega)
 obtain⟨W,hW⟩: ∃W,W=U.setCell ⟨g,1,none⟩ (.int .i64 ((s.order:Int)+1)):=⟨_,rfl⟩;rw[<- hW]at hB4 BV4 BU4 sD s4⊢;clear hW hB3 BV3 BU sC j0 j1 j2 j3 f1 s4;obtain⟨j0,j1,j2,j3⟩:=hB4.cs;replace j1:W.cell? ⟨g,1,none⟩=some (.int .i64 ((s.order:Int)+1)):=j1;obtain⟨k0,k1,-,-⟩:=BU4.b.c2;have sX:=(Stp.alloc W t3 (fun _=>False) (.cells #[.int .i64 n,.int .i64 z,.int .i64 ((s.order:Int)+1),.int .i64 0,.int .i64 0] 213) (m+7)).drew
 have hXn:=(BT.new' W t3 (m+7) W.heap.size rfl 213 #[.int .i64 n,.int .i64 z,.int .i64 ((s.order:Int)+1),.int .i64 0,.int .i64 0]).drew;obtain⟨w8,hrun,hA8,hS8⟩:=(hB4.a.keep sX id).put uQ Tryz.underlying135 q hO (W.heap.size,⟨n,z,s.order+1,0,0⟩);have l5:w2.heap.size<W.heap.size:=BU4.lt;have l6:g<W.heap.size:=hB4.b.lt;go_region
 have z8:=hS8 (fun x=>x=m+6) rfl
 have hB8:=(hB4.keep sX fun _ _ h=>h).add (q:=q) (x:=⟨n,z,s.order+1,0,0⟩) (fun y hy=>(hB4.x y hy).lt) hA8 (hXn.keep z8 (by omega)) z8
 have BV8:=(BV4.keep sX id).keep z8 (by omega)
 have BU8:=(BU4.keep sX id).keep z8 (by omega)
 have s8:=(sD.trans sX fun _ h=>h.elim).trans z8 fun y (h:y=m+6)=>(show Mk m 340 y by omega)
 clear hB4 BV4 BU4 sD sX hXn hA8 hS8 z8 hrun j0 j1 j2 j3 k0 k1 l5 l6;generalize upT t3 W (m+7)=t8 at*;have hLY:=CB w8 t8 m g _ q ⟨n,z,s.order+1,0,0⟩ ⟨gs,bt,LB,_,hB8⟩ hO (wR _ _ _) h1 h2;have hQ:iG { { s with dN:=Z1,order:=s.order+1 } with dZ:=bK s.dZ q ⟨n,z,s.order+1,0,0⟩ } q ⟨n,z,s.order+1,0,0⟩=iG { s with dN:=Z1,order:=s.order+1 } q ⟨n,z,s.order+1,0,0⟩:=by
  unfold iG;simp only[oq]
 have hLY:Calls Tryz.prog 118 #[pV g,hnV q] w8 fun e w'=>e= .returned (.tuple #[])/\ ∃t',WhK w' t' m g (iG { s with dN:=Z1,order:=s.order+1 } q ⟨n,z,s.order+1,0,0⟩)/\ Stp (Mk m 340) w8 t8 w' t':=by
  rw[<- hQ];exact hLY
 clear hQ;obtain⟨k0,k1,-,-⟩:=BU8.b.c2;go_wp2_with fail
 refine hLY.mono ?_;rintro e w9 ⟨rfl,t9,hE,s9⟩;have BV9:=BV8.keep s9 (by omega)
 have BU9:=BU8.keep s9 (by omega)
 obtain⟨y0,y1,yf0,yf1⟩:=BV9.b.c2;obtain⟨v0,v1,-,-⟩:=BU9.b.c2;clear hLY BV8 BU8 hB8 k0 k1;go_wp2_with fail
 obtain⟨c1,z1⟩:=BV9.aH 0 (.int .i64 q.1);obtain⟨c2,z2⟩:=c1.aH 1 (.int .i64 q.2);have sV:=z1.trans z2 fun _ h=>h
 have hE9:=hE.keep sV fun y hy=>by omega
 obtain⟨r0,r1,-,-⟩:=(c2.to (cs':=#[.int .i64 q.1,.int .i64 q.2]) (by simp)).b.c2
 refine bodyPost_ret (v:=.tuple #[hnV q,.int .i64 0]) (by simp[results,Tryz.results139,go_sem,r0,r1]) rfl ⟨rfl,_,hE9,?_⟩
 exact(((s8.trans s9 fun _ h=>h).mono (S':=fun y=>Mk m 340 y\/ y=τ) fun _ h=>.inl h).trans sV fun _ h=>.inr h).drop fun k hk hS=>hS.resolve_right fun e=>by have:=hfr k hk;omega
structure SrP where
 gp:Nat
 gs:Nat
 gg:Nat
 gw:Nat
 gr:Nat
 gn:Nat
 bm:Nat
 tv:Value
 tg:Value
def srvC (P:SrP) (s:SrS):Array Value:=
 ([pV P.gp]++cfC s.cf P.tv++ [pV P.gs,pV P.gg,pV P.gw,pV P.gr,.map (some P.bm),nV s.handle.1,nV s.handle.2,.bool s.reading,nV s.fin,nV s.accepted,nV s.refused,nV s.shunned,nV 0,nV s.failed,nV s.requests,nV s.responses,nV s.timeouts,nV 0,nV 0,nV 0,nV 0,nV 0,.bool s.eF,.bool s.stopped]).toArray
def clC (gc:Nat) (x:ClS):Array Value:=#[pV gc,nV x.id,nV x.peer,nV x.ring,nV x.handle.1,nV x.handle.2,nV x.timer.1,nV x.timer.2,.bool x.timed,nV x.at_,.bool x.shut]
abbrev CL:=List (Nat×(Nat×Nat×ClS))
abbrev cM (i:Nat):Nat:=3000+50*i
structure Dz (w:World) (t:Nat-> Nat) (cf:Cf) (tv:Value) (gs:Nat) (y:Nat×(Nat×Nat×ClS)):Prop where
 b:BT w t (cM y.1) y.2.1 80 (clC y.2.2.1 y.2.2.2)
 c:dK w t (cM y.1+10) y.2.2.1 cf tv gs y.2.2.2.c
 i:y.2.2.2.id=y.1
 z:y.1<1000
structure aZ (w:World) (t:Nat-> Nat) (g:Nat) (s:SrS) (P:SrP) (L:CL):Prop where
 gl:GL w t
 b:BT w t 10 g 74 (srvC P s)
 site:yw w t 20 P.gs s.tab
 gate:nS w t 40 P.gg s.cf P.tg s.gate
 lD:WhK w t 100 P.gw s.wh
 pool:wS w t 50 P.gr s.pool
 poll:pO w t 60 P.gn P.gp s.poll
 net:fP w t 1000 P.gn s.net
 all:MT w t 11 P.bm nV nOk (fun y:Nat×Nat×ClS=>pV y.1) L
 l:L.map (fun y=>(y.1,y.2.2.2))=s.all
 x: ∀y∈L,Dz w t s.cf P.tv P.gs y
 ok:GY s.cf
def yC (w:World) (t:Nat-> Nat) (g:Nat) (s:SrS) (P:SrP):Prop:= ∃L,aZ w t g s P L
abbrev SM (y:Nat):Prop:=10<= y/\ y<1000000
section
variable {S:Nat-> Prop} {w w':World} {t t':Nat-> Nat} {cf:Cf} {tv:Value} {gs g:Nat} {s:SrS} {P:SrP} {L:CL}
theorem Dz.keep {y:Nat×(Nat×Nat×ClS)} (h:Dz w t cf tv gs y) (st:Stp S w t w' t') (h0: ∀z,Mk (cM y.1) 50 z-> ¬S z):Dz w' t' cf tv gs y:=
 ⟨h.b.keep st (h0 _ ⟨Nat.le_refl _,by omega⟩),h.c.keep st fun z hz=>h0 z ⟨by omega,by omega⟩,h.i,h.z⟩
theorem aZ.keep (h:aZ w t g s P L) (st:Stp S w t w' t') (h0: ∀y,SM y-> ¬S y) (hz: ¬S 0):aZ w' t' g s P L:=
 ⟨h.gl.keep st hz,h.b.keep st (h0 _ (by omega)),h.site.keep st (fun y hy=>h0 y (by omega)),h.gate.keep st (h0 _ (by omega)) (h0 _ (by omega)),h.lD.keep st (fun y hy=>h0 y (by omega)),h.pool.keep st (h0 _ (by omega)) (h0 _ (by omega)),
   h.poll.keep st (fun y hy=>h0 y (by omega)),h.net.keep st (fun y hy=>h0 y (by omega)),h.all.keep st (h0 _ (by omega)),h.l,fun y hy=>(h.x y hy).keep st (fun z hz=>h0 z (by have:=(h.x y hy).z;have e:cM y.1=3000+50*y.1:=rfl;constructor<;>omega)),h.ok⟩
theorem aZ.kE (h:aZ w t g s P L) (n:cu) (st:Stp (Mk 1000 1000) w t w' t') (hn:fP w' t' 1000 P.gn n):aZ w' t' g { s with net:=n } P L:=
 ⟨h.gl.keep st (by omega),h.b.keep st (by omega),h.site.keep st (fun y hy=>by omega),h.gate.keep st (by omega) (by omega),h.lD.keep st (fun y hy=>by omega),h.pool.keep st (by omega) (by omega),
   h.poll.keep st (fun y hy=>by omega),hn,h.all.keep st (by omega),h.l,fun y hy=>(h.x y hy).keep st (fun z hz=>by have:=(h.x y hy).z;have e:cM y.1=3000+50*y.1:=rfl;omega),h.ok⟩
theorem aZ.wU (h:aZ w t g s P L) (p:fK) (st:Stp (Mk 60 10) w t w' t') (hn:pO w' t' 60 P.gn P.gp p):aZ w' t' g { s with poll:=p } P L:=
 ⟨h.gl.keep st (by omega),h.b.keep st (by omega),h.site.keep st (fun y hy=>by omega),h.gate.keep st (by omega) (by omega),h.lD.keep st (fun y hy=>by omega),h.pool.keep st (by omega) (by omega),
   hn,h.net.keep st (fun y hy=>by omega),h.all.keep st (by omega),h.l,fun y hy=>(h.x y hy).keep st (fun z hz=>by have:=(h.x y hy).z;have e:cM y.1=3000+50*y.1:=rfl;omega),h.ok⟩
theorem aZ.H7 (h:aZ w t g s P L) (p:iW) (st:Stp (Mk 40 5) w t w' t') (hn:nS w' t' 40 P.gg s.cf P.tg p):aZ w' t' g { s with gate:=p } P L:=
 ⟨h.gl.keep st (by omega),h.b.keep st (by omega),h.site.keep st (fun y hy=>by omega),hn,h.lD.keep st (fun y hy=>by omega),h.pool.keep st (by omega) (by omega),
   h.poll.keep st (fun y hy=>by omega),h.net.keep st (fun y hy=>by omega),h.all.keep st (by omega),h.l,fun y hy=>(h.x y hy).keep st (fun z hz=>by have:=(h.x y hy).z;have e:cM y.1=3000+50*y.1:=rfl;omega),h.ok⟩
theorem aZ.wV (h:aZ w t g s P L) (p:WhS) (st:Stp (Mk 100 340) w t w' t') (hn:WhK w' t' 100 P.gw p):aZ w' t' g { s with wh:=p } P L:=
 ⟨h.gl.keep st (by omega),h.b.keep st (by omega),h.site.keep st (fun y hy=>by omega),h.gate.keep st (by omega) (by omega),hn,h.pool.keep st (by omega) (by omega),
   h.poll.keep st (fun y hy=>by omega),h.net.keep st (fun y hy=>by omega),h.all.keep st (by omega),h.l,fun y hy=>(h.x y hy).keep st (fun z hz=>by have:=(h.x y hy).z;have e:cM y.1=3000+50*y.1:=rfl;omega),h.ok⟩
theorem aZ.Zj (h:aZ w t g s P L) (p:qM) (st:Stp (Mk 50 2) w t w' t') (hn:wS w' t' 50 P.gr p):aZ w' t' g { s with pool:=p } P L:=
 ⟨h.gl.keep st (by omega),h.b.keep st (by omega),h.site.keep st (fun y hy=>by omega),h.gate.keep st (by omega) (by omega),h.lD.keep st (fun y hy=>by omega),hn,
   h.poll.keep st (fun y hy=>by omega),h.net.keep st (fun y hy=>by omega),h.all.keep st (by omega),h.l,fun y hy=>(h.x y hy).keep st (fun z hz=>by have:=(h.x y hy).z;have e:cM y.1=3000+50*y.1:=rfl;omega),h.ok⟩
theorem aZ.set (h:aZ w t g s P L) (i:Nat) (u:Value) (s':SrS) (hc:(srvC P s).setIfInBounds i u=srvC P s') (e:(s'.cf,s'.tab,s'.gate,s'.wh,s'.pool,s'.poll,s'.net,s'.all)=(s.cf,s.tab,s.gate,s.wh,s.pool,s.poll,s.net,s.all)):
 aZ (w.setCell ⟨g,i,none⟩ u) t g s' P L/\ Stp (fun y=>y=10) w t (w.setCell ⟨g,i,none⟩ u) t:=by
 obtain⟨b1,st⟩:=h.b.aH i u;simp only[Prod.mk.injEq]at e;obtain⟨e1,e2,e3,e4,e5,e6,e7,e8⟩:=e;refine⟨⟨h.gl.keep st (by omega),b1.to hc,?_,?_,?_,?_,?_,?_,h.all.keep st (by omega),?_,?_,?_⟩,st⟩
 ·rw[e2];exact h.site.keep st (fun y hy=>by omega)
 ·rw[e1,e3];exact h.gate.keep st (by omega) (by omega)
 ·rw[e4];exact h.lD.keep st (fun y hy=>by omega)
 ·rw[e5];exact h.pool.keep st (by omega) (by omega)
 ·rw[e6];exact h.poll.keep st (fun y hy=>by omega)
 ·rw[e7];exact h.net.keep st (fun y hy=>by omega)
 ·rw[e8];exact h.l
 ·rw[e1];exact fun y hy=>(h.x y hy).keep st (fun z hz=>by have:=(h.x y hy).z;have e:cM y.1=3000+50*y.1:=rfl;omega)
 ·rw[e1];exact h.ok
theorem aZ.get (h:aZ w t g s P L) {i:Nat} {x:ClS} (hx:s.cl i=some x): ∃gl gc,aT L i=some (gl,gc,x):=by
 rw[SrS.cl,<- h.l,nT (fun y:Nat×Nat×ClS=>y.2.2)]at hx
 obtain⟨⟨gl,gc,y⟩,h1,rfl⟩:=Option.map_eq_some_iff.1 hx;exact⟨gl,gc,h1⟩
theorem aZ.cl (h:aZ w t g s P L) {i gl gc:Nat} {x:ClS} (hx:aT L i=some (gl,gc,x)):s.cl i=some x:=by
 rw[SrS.cl,<- h.l,nT (fun y:Nat×Nat×ClS=>y.2.2),hx];rfl
theorem aZ.one (h:aZ w t g s P L) {i gl gc:Nat} {x:ClS} (hx:aT L i=some (gl,gc,x)):Dz w t s.cf P.tv P.gs (i,(gl,gc,x)):=h.x _ (cZ hx)
theorem aZ.ZJ (h:aZ w t g s P L) {i gl gc:Nat} {x:ClS} (hx:aT L i=some (gl,gc,x)) (x':ClS) (st:Stp (Mk (cM i) 50) w t w' t') (hX:Dz w' t' s.cf P.tv P.gs (i,(gl,gc,x'))):
 aZ w' t' g (s.put i x') P (dL L i (gl,gc,x')):=by
 have hz:=hX.z;simp only at hz;have e0:cM i=3000+50*i:=rfl
 refine⟨h.gl.keep st (by omega),h.b.keep st (by omega),h.site.keep st (fun y hy=>by omega),h.gate.keep st (by omega) (by omega),h.lD.keep st (fun y hy=>by omega),h.pool.keep st (by omega) (by omega),
  h.poll.keep st (fun y hy=>by omega),h.net.keep st (fun y hy=>by omega),?_,?_,?_,h.ok⟩
 ·exact(h.all.keep st (by omega)).vals (rU (fun y:Nat×Nat×ClS=>pV y.1) L i (gl,gc,x') (gl,gc,x) h.all.2.2.1 hx rfl)
 ·show _=bK s.all i x'
  rw[<- h.l,nU (fun y:Nat×Nat×ClS=>y.2.2) L i (gl,gc,x'),rV hx]
 ·intro y hy
  rcases BM hy with rfl| ⟨hy,hne⟩
  ·exact hX
  ·exact(h.x y hy).keep st fun z hz=>by have:=(h.x y hy).z;have e:cM y.1=3000+50*y.1:=rfl;have e':cM i=3000+50*i:=rfl;omega
theorem dw {α β:Type} [DecidableEq α] {l:List (α×β)} {a:α} {b:β} (h:aT l a=some b) (b':β):aT (dL l a b') a=some b':=by
 rw[<- rV h];exact wR l a b'
theorem aZ.Xi (h:aZ w t g s P L) {i gl gc:Nat} {x:ClS} (hx:aT L i=some (gl,gc,x)) (c':CnS) (st:Stp (Mk (cM i+10) 20) w t w' t') (hC:dK w' t' (cM i+10) gc s.cf P.tv P.gs c'):
 aZ w' t' g (s.put i { x with c:=c' }) P (dL L i (gl,gc,{ x with c:=c' })):=by
 have h1:=h.one hx;have e0:cM i=3000+50*i:=rfl;exact h.ZJ hx _ (st.mono fun y hy=>by omega) ⟨h1.b.keep st (by show¬Mk (cM i+10) 20 (cM i);omega),hC,h1.i,h1.z⟩
theorem aZ.mQ (h:aZ w t g s P L) {i gl gc:Nat} {x:ClS} (hx:aT L i=some (gl,gc,x)) (k:Nat) (u:Value) (x':ClS) (hc:(clC gc x).setIfInBounds k u=clC gc x') (e:x'.c=x.c) (ei:x'.id=x.id):
 aZ (w.setCell ⟨gl,k,none⟩ u) t g (s.put i x') P (dL L i (gl,gc,x'))/\ Stp (fun y=>y=cM i) w t (w.setCell ⟨gl,k,none⟩ u) t:=by
 have h1:=h.one hx;have e0:cM i=3000+50*i:=rfl;obtain⟨b1,st⟩:=h1.b.aH k u;refine⟨h.ZJ hx _ (st.mono fun y (hy:y=cM i)=>(show Mk (cM i) 50 y by omega)) ⟨b1.to hc,?_,ei.trans h1.i,h1.z⟩,st⟩
 show dK _ _ _ _ _ _ _ x'.c;rw[e];exact h1.c.keep st fun y (hy:Mk (cM i+10) 20 y)=>by show¬y=cM i;omega
theorem aZ.newCl (h:aZ w t g s P L) {i gl gc:Nat} {x:ClS} (hno:jD s.all i=false) (st:Stp (fun y=>y=11) w t w' t') (hA:MT w' t' 11 P.bm nV nOk (fun y:Nat×Nat×ClS=>pV y.1) (bK L i (gl,gc,x))) (hX:Dz w' t' s.cf P.tv P.gs (i,(gl,gc,x))):
 aZ w' t' g (s.put i x) P (L++ [(i,(gl,gc,x))])/\ aT (L++ [(i,(gl,gc,x))]) i=some (gl,gc,x):=by
 have hL:jD L i=false:=by rw[<- h.l,BK (fun y:Nat×Nat×ClS=>y.2.2)]at hno;exact hno
 have e1:bK L i (gl,gc,x)=L++ [(i,(gl,gc,x))]:=by rw[bK,hL];rfl
 have e2:=wR L i (gl,gc,x);rw[e1]at hA e2
 refine⟨⟨h.gl.keep st (by omega),h.b.keep st (by omega),h.site.keep st (fun y hy=>by omega),h.gate.keep st (by omega) (by omega),h.lD.keep st (fun y hy=>by omega),h.pool.keep st (by omega) (by omega),
  h.poll.keep st (fun y hy=>by omega),h.net.keep st (fun y hy=>by omega),hA,?_,?_,h.ok⟩,e2⟩
 ·show _=bK s.all i x
  rw[<- h.l,nU (fun y:Nat×Nat×ClS=>y.2.2) L i (gl,gc,x),e1]
 ·intro y hy
  rcases List.mem_append.1 hy with hy|hy
  ·exact(h.x y hy).keep st fun z hz=>by have:=(h.x y hy).z;have e:cM y.1=3000+50*y.1:=rfl;have e':cM i=3000+50*i:=rfl;omega
  ·rw[List.mem_singleton.1 hy];exact hX
theorem aZ.OH (h:aZ w t g s P L) {c:Nat} (hno:jD s.all c=false) (hc:c<1000) (st:Stp (Mk (cM c) 50) w t w' t'):aZ w' t' g s P L:=by
 have e0:cM c=3000+50*c:=rfl;have hL:jD L c=false:=by rw[<- h.l,BK (fun y:Nat×Nat×ClS=>y.2.2)]at hno;exact hno
 refine⟨h.gl.keep st (by omega),h.b.keep st (by omega),h.site.keep st (fun y hy=>by omega),h.gate.keep st (by omega) (by omega),h.lD.keep st (fun y hy=>by omega),h.pool.keep st (by omega) (by omega),
  h.poll.keep st (fun y hy=>by omega),h.net.keep st (fun y hy=>by omega),h.all.keep st (by omega),h.l,fun y hy=>(h.x y hy).keep st fun z hz=> ?_,h.ok⟩
 have hne:=(rD L c).1 hL y hy;have e:cM y.1=3000+50*y.1:=rfl;omega
theorem aZ.Rj (h:aZ w t g s P L):w.cell? ⟨P.gp,0,none⟩=some (pV P.gn):=by
 obtain⟨a,b,c,hh⟩:=h.poll;exact hh.b.b.cell 0
end
def kF (gs bt:Nat) (LB:Nat-> Nat) (K:Nat):Array Value:=([nV 0,nV 0,pV gs,.map (some bt)]++(List.range 320).map fun k=>Value.map (if k<K then some (LB k)else none)).toArray
theorem JY (gs bt:Nat) (LB:Nat-> Nat):(((Tryz.zeroCells140.setIfInBounds 0 (nV 0)).setIfInBounds 2 (pV gs)).setIfInBounds 3 (.map (some bt)))=kF gs bt LB 0:=by kernel_rfl
theorem Ns (gs bt:Nat) (LB:Nat-> Nat) (K b:Nat) (hK:K<320):(kF gs bt LB K).setIfInBounds (4+K) (.map (some b))=kF gs bt (fun k=>if k=K then b else LB k) (K+1):=by
 apply Array.ext';simp only[kF,List.setIfInBounds_toArray];rw[List.set_append_right _ _ (by simp)]
 congr 1
 refine List.ext_getElem? fun i=> ?_
 rw[show 4+K- [nV 0,nV 0,pV gs,Value.map (some bt)].length=K by simp,List.getElem?_set,List.getElem?_map]
 by_cases h:K=i
 ·subst h
  rw[if_pos rfl,if_pos (by simpa using hK)]
  simp[hK]
 ·rw[if_neg h,List.getElem?_map]
  by_cases hi:i<320
  ·rw[List.getElem?_range hi]
   simp only[Option.map_some,Option.some.injEq,Value.map.injEq];have e:(i<K+1)=(i<K):=by simp;omega
   have e2: ¬i=K:=fun e=>h e.symm
   simp[e,e2]
  ·rw[List.getElem?_eq_none (by simpa using hi)];rfl
theorem Nu (gs bt:Nat) (LB:Nat-> Nat):kF gs bt LB 320=Cj 0 0 gs bt LB:=by
 rw[kF,Cj];congr 2
theorem Rl (gs bt:Nat) (LB:Nat-> Nat) (K:Nat) (hK:K<320):(kF gs bt LB K)[4+K]? = some (.map none):=by
 simp only[kF,List.getElem?_toArray];rw[List.getElem?_append_right (by simp)]
 simp[hK]
structure WhP (w:World) (t:Nat-> Nat) (m g gs bt:Nat) (K:Nat) (LB:Nat-> Nat):Prop where
 b:BT w t m g 140 (kF gs bt LB K)
 s:jT w t (m+1) gs ⟨4096,[],0⟩
 a:MT w t (m+6) bt hnV iH (fun y:Nat×jh=>pV y.1) []
 z: ∀k,k<K-> MT w t (m+20+k) (LB k) hnV iH Value.bool []
theorem Zk (w:World) (t:Nat-> Nat) (m:Nat):
 Calls Tryz.prog 63 #[nV 0] w fun e w'=> ∃g,e= .returned (.tuple #[pV g,.int .i64 0])/\ ∃t',WhK w' t' m g (wh0 0)/\ Stp (Mk m 340) w t w' t':=by
 have hT:=fun w=>uY w 0 (by omega)
 have hN:=Oj 4096 w t (m+1) (by omega) (by omega)
 have hmk: ∀w:World,(Instr.makeMap 135 none).run Tryz.prog w= .ok (.map (some w.heap.size)) (w.alloc (.map #[] 0)):=fun _=>rfl
 go_enter Tryz.func63,Tryz.ntmps63
 go_wp2_with fail
 refine(hT w).mono ?_;rintro e w1 ⟨rfl,rfl⟩;go_wp2_with fail
 refine hN.mono ?_;rintro e w1 ⟨rfl,t1,hs1,st1⟩;go_upto_region 7 with(fail)
 have s2:=Stp.alloc w1 t1 (fun _=>False) (.map #[] 0) (m+6)
 have hA:=MT.new w1 t1 (m+6) hnV iH (fun y:Nat×jh=>pV y.1)
 have hS2:=hs1.keep s2 id id;rw[JY _ _ (fun _=>0)]
 obtain⟨V,hV⟩: ∃V,V=w1.alloc (.map #[] 0):=⟨_,rfl⟩;have hVs:w1.heap.size+1=V.heap.size:=by rw[hV];simp
 rw[<- hV]at s2 hA hS2⊢;clear hV;generalize upT t1 w1 (m+6)=t2 at*;have s3:=Stp.alloc V t2 (fun _=>False) (.cells (kF w.heap.size w1.heap.size (fun _=>0) 0) 140) m
 have hb:=BT.new' V t2 m (w1.heap.size+1) hVs 140 (kF w.heap.size w1.heap.size (fun _=>0) 0)
 have hP:WhP _ _ m (w1.heap.size+1) w.heap.size w1.heap.size 0 (fun _=>0):=⟨hb,hS2.keep s3 id id,hA.keep s3 id,fun k hk=>absurd hk (Nat.not_lt_zero _)⟩
 have sA:=((st1.mono (S':=Mk m 340) fun y (h:jf (m+1) y)=>(show Mk m 340 y by omega)).trans s2 fun _ h=>h.elim).trans s3 fun _ h=>h.elim
 obtain⟨W,hW⟩: ∃W,W=V.alloc (.cells (kF w.heap.size w1.heap.size (fun _=>0) 0) 140):=⟨_,rfl⟩
 rw[<- hW]at hP sA⊢;generalize upT t2 V m=t3 at*;clear hW hb s3 hS2 hA s2 hs1 st1;obtain⟨g,hg⟩: ∃g,g=w1.heap.size+1:=⟨_,rfl⟩;rw[<- hg]at hP⊢;clear hg hN hT;go_wp2_with fail
 go_loopw [24] (fun z wr=> ∃(i:Nat) (tr LB:Nat-> Nat),z= .int .i64 (i:Int)/\ i<= 5/\ WhP wr tr m g w.heap.size w1.heap.size (64*i) LB/\ Stp (Mk m 340) w t wr tr) (fun z _=>5- (intOf z).toNat)
 case atStart=>exact⟨0,t3,_,rfl,by omega,hP,sA⟩
 case round=>
  obtain⟨i,tr,LB,rfl,hi,hPr,sr⟩:=hrel;rcases Nat.lt_or_ge i 5 with hi5|hi5;rotate_left
  ·obtain rfl:i=5:=by omega
   go_wp2_with fail
   go_ret2
   refine⟨_,rfl,tr,⟨w.heap.size,w1.heap.size,LB,[],hPr.b.to (Nu ..),hPr.s,hPr.a,rfl,by simp,(fun y hy=>by cases hy),fun k hk=>hPr.z k hk⟩,sr⟩
  ·have hiI:(i:Int)<5:=by omega
   go_wp2_with fail
   go_loopw [27] (fun z w2=> ∃(j:Nat) (t2 L2:Nat-> Nat),z= .int .i64 (j:Int)/\ j<= 64/\ WhP w2 t2 m g w.heap.size w1.heap.size (64*i+j) L2/\ Stp (Mk m 340) w t w2 t2) (fun z _=>64- (intOf z).toNat)
   case atStart=>exact⟨0,tr,LB,rfl,by omega,hPr,sr⟩
   case round=>
    obtain⟨j,t4,L4,rfl,hj,hP4,s4⟩:=hrel;rcases Nat.lt_or_ge j 64 with hj64|hj64;rotate_left
    ·obtain rfl:j=64:=by omega
     go_wp2_with fail
     go_roundw
     case rel=>exact⟨i+1,t4,L4,by go_num,by omega,by rw[show 64*(i+1)=64*i+64 by omega];exact hP4,s4⟩
     case measure=>simp[intOf];omega
    ·have hjI:(j:Int)<64:=by omega
     have hmk2: ∀w:World,(Instr.makeMap 136 none).run Tryz.prog w= .ok (.map (some w.heap.size)) (w.alloc (.map #[] 0)):=fun _=>rfl
     have c0:wr.cell? ⟨g,4+i*64+j,none⟩=some (.map none):=by
      rw[show 4+i*64+j=4+(64*i+j) by omega]
      exact(hP4.b.b.cell _).trans (Rl _ _ _ _ (by omega))
     have f0:wr.frozen? ⟨g,4+i*64+j,none⟩=false:=hP4.b.b.frozen _;have l6:g<wr.heap.size:=hP4.b.lt;go_wp2_with fail
     go_roundw
     case rel=>
      obtain⟨b1,z1⟩:=hP4.b.aH (4+(64*i+j)) (.map (some wr.heap.size));have hz:(wr.setCell ⟨g,4+(64*i+j),none⟩ (.map (some wr.heap.size))).heap.size=wr.heap.size:=by simp[World.setCell]
      have z2:=Stp.alloc (wr.setCell ⟨g,4+(64*i+j),none⟩ (.map (some wr.heap.size))) t4 (fun _=>False) (.map #[] 0) (m+20+(64*i+j))
      have hn:=MT.new (wr.setCell ⟨g,4+(64*i+j),none⟩ (.map (some wr.heap.size))) t4 (m+20+(64*i+j)) hnV iH Value.bool;rw[hz]at hn;rw[show 4+i*64+j=4+(64*i+j) by omega]
      refine⟨j+1,_,fun k=>if k=64*i+j then wr.heap.size else L4 k,by go_num,by omega,⟨(b1.keep z2 id).to (Ns _ _ _ _ _ (by omega)),(hP4.s.keep z1 (by omega) (by omega)).keep z2 id id,(hP4.a.keep z1 (by omega)).keep z2 id,fun k hk=> ?_⟩,(s4.trans z1 fun y (h:y=m)=>(show Mk m 340 y by omega)).trans z2 fun _ h=>h.elim⟩
      by_cases e:k=64*i+j
      ·subst e;rw[if_pos rfl];exact hn
      ·rw[if_neg e];exact((hP4.z k (by omega)).keep z1 (by omega)).keep z2 id
     case measure=>simp[intOf];omega
end Go.Proofs.YtdmondfpepbniaaGreatDoor
