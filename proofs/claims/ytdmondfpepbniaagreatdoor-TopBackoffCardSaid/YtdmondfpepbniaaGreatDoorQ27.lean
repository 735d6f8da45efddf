/- Part 27 of the proof: VuA Vq Vw. -/
import Derived.Test.YtdmondfpepbniaaGreatDoorQ20
import Derived.Test.YtdmondfpepbniaaGreatDoorQ22
namespace Go.Proofs.YtdmondfpepbniaaGreatDoor
open Go.RowKit
set_option maxRecDepth 100000
set_option maxHeartbeats 4000000
set_option linter.all false
theorem EP (w:World) (t:Nat-> Nat) (m g:Nat) (q:xU) (n:Nat) (h:yc w t m g q) (hn:n<= q.b.length) (hq:q.b.length<= 1000000):
 Calls Tryz.prog 130 #[.pointer (some ⟨g,0,none⟩),nV n] w fun e w'=> ∃A c,e= .returned (.slice A n c)/\ n<= c/\ Rd w w.heap.size 1 A n ((q.b.take n).map bv)/\ (A=none-> n=0)/\ ∃k,w'=w.drewN k:=by
 obtain⟨vb,vp,hb,hr,hp⟩:=h;obtain⟨A,c,rfl,hnc,hcm,hrd,hA0⟩:=hr.form;obtain⟨j0,j1,j2,-,-,-⟩:=hb.b.c3;obtain⟨A',c',hc',hs,yX⟩:=zo c n hrd hn hnc;have hA':A'=none-> n=0:=by
  intro e;rcases Nat.eq_zero_or_pos n with h0|h0
  ·exact h0
  ·obtain⟨x,o,e2,-⟩:=yX.2 h0
   rw[e]at e2;cases e2
 have hmin:min (n:Int) (q.b.length:Int)=(n:Int):=by omega
 have hmax:max (0:Int) (n:Int)=(n:Int):=by omega
 go_enter Tryz.func130,Tryz.ntmps130
 go_wp2_with fail
 go_quiet (fail)
 go_wp2_with fail
 go_ret
 exact⟨A',c',rfl,hc',yX,hA',_,rfl⟩
theorem WO (w:World) (t:Nat-> Nat) (m g:Nat) (q:xU) (n:Nat) (h:yc w t m g q) (hn:n<= q.b.length) (hq:q.b.length<= 1000000):
 Calls Tryz.prog 76 #[.pointer (some ⟨g,0,none⟩),nV n] w (rG w (q.b.take n)):=by
 have hF:=EP w t m g q n h hn hq;have hlen:(q.b.take n).length=n:=by rw[List.length_take];omega
 go_enter Tryz.func76,Tryz.ntmps76
 go_wp2_with fail
 refine hF.mono ?_;rintro e w1 ⟨A,c,rfl,hc,hrd,hA,k,rfl⟩;obtain⟨l,hl⟩: ∃l,q.b.take n=l:=⟨_,rfl⟩;rw[hl]at hlen hrd;have hC:=nO A c _ l (w.drewN k) (by rw[hlen];exact hrd.drewN k) (fun e=>List.eq_nil_of_length_eq_zero (by rw[hlen];exact hA e)) (by omega)
 rw[hlen]at hC;have HL:=Lib.hid hl;clear hl hlen;go_wp2_with fail
 refine hC.mono ?_;rintro e w2 ⟨v,rfl,ho,L2⟩;go_wp2_with fail
 go_ret
 exact⟨v,rfl,(by rw[HL.out];exact(show OB w2 w.heap.size v l from ho)),stepW (Below.drewN (Below.refl _ _) k) L2⟩
theorem Oz: ∀(l:List (Nat×Nat)) (k:Nat) (x:Nat×Nat),l[k]? = some x->(lJ l)[k*2]? = some (nV x.1)/\ (lJ l)[k*2+1]? = some (nV x.2)
 | [],k,x,h=>by simp at h
 |y::l,0,x,h=>by
  obtain rfl:y=x:=by simpa using h
  simp[lJ]
 |y::l,k+1,x,h=>by
  have:=Oz l k x (by simpa using h)
  rw[show(k+1)*2=k*2+2 by omega]
  simpa [lJ] using this
theorem RT.pc {w:World} {t:Nat-> Nat} {τ n:Nat} {v:Value} {l:List (Nat×Nat)} (h:RT w t τ 268 2 v n (lJ l)) (hn:l.length=n) (k:Nat) (x:Nat×Nat) (hx:l[k]? = some x):
 ∃g off cap,v= .slice (some ⟨g,off,none⟩) n cap/\ t g=τ/\ g<w.heap.size/\ n<= cap/\ cap<= maxLen/\ w.cell? ⟨g,off+k*2,none⟩=some (nV x.1)/\ w.cell? ⟨g,off+k*2+1,none⟩=some (nV x.2)/\ w.frozen? ⟨g,off+k*2,none⟩=false/\ w.frozen? ⟨g,off+k*2+1,none⟩=false:=by
 have hk:k<n:=by rw[<- hn];exact(List.getElem?_eq_some_iff.1 hx).1
 obtain⟨A,c,e,hnc,hcm,-,-⟩:=h.form;obtain⟨g,off,cap,e2,hlt,hm,hc⟩:=h.at_ (by omega)
 rw[e2]at e;injection e with e3 _ e4
 obtain⟨a1,a2⟩:=Oz l k x hx;refine⟨g,off,cap,e2,hm,hlt,by omega,by omega,(hc (k*2) (by omega)).1.trans a1,?_,(hc (k*2) (by omega)).2,?_⟩
 ·rw[Nat.add_assoc];exact(hc (k*2+1) (by omega)).1.trans a2
 ·rw[Nat.add_assoc];exact(hc (k*2+1) (by omega)).2
theorem rZ:(Tryz.prog.info? 3).map (fun i=>(i.zero,i.size,i.bytes))=some (some (.int .i64 0),1,8):=by kernel_rfl
theorem JF (w:World) (t:Nat-> Nat) (m g:Nat) (q:xU) (h:yc w t m g q) (hp:q.pcs.length<= 100000):
 Calls Tryz.prog 188 #[.pointer (some ⟨g,0,none⟩)] w fun e w'=> ∃A c,e= .returned (.slice A q.pcs.length c)/\ Below w.heap.size w w':=by
 obtain⟨vb,vp,hb,hr,hpr⟩:=h;obtain⟨A,c,rfl,hnc,hcm,-,-⟩:=hpr.form;obtain⟨j0,j1,j2,-,-,-⟩:=hb.b.c3;obtain⟨i0,hi,hz0,hz1,hz2⟩:=info_parts rZ;go_enter Tryz.func188,Tryz.ntmps188
 go_wp2_with fail
 go_loopw [3,13] (fun y i wr=> ∃(k:Nat) (xs:List Value),i= .int .i64 k/\ k<= q.pcs.length/\ Own wr w.heap.size 3 1 y k xs/\ Below w.heap.size w wr) (fun _ i _=>q.pcs.length- (intOf i).toNat)
 case atStart=>exact⟨0,[],rfl,Nat.zero_le _,Own.nil _ _ _ _,Below.refl _ _⟩
 case round=>
  obtain⟨k,xs,rfl,hk,ho,L⟩:=hrel;by_cases hlt:k<q.pcs.length
  ·obtain⟨x,hx⟩: ∃x,q.pcs[k]? = some x:=⟨q.pcs[k],List.getElem?_eq_getElem hlt⟩
   obtain⟨gp,off,cp,hv,hm,hgl,-,-,y0,y1,-,-⟩:=(hpr.ah L).pc rfl k x hx;injection hv with hv1 _ hv2
   subst hv1 hv2;obtain⟨A3,c3,rfl,-,-,-,-⟩:=Own.rd ho;have hs0:=L.size;go_wp2_with (at_builtin;go_must (refine aJ _ rfl _ _ 34 34 rfl w.heap.size 3 i0 _ 1 8 Tryz.underlying34 (.inl Tryz.underlying34) hi hz0 hz1 hz2 rfl (by decide) (.slice A3 k c3) k xs rfl (Own.alloc (Own.alloc ho _) _) _ 1 [nV x.1] rfl (Src.fB (Rd.new _ _ (by simp) [nV x.1] 3 1 1 rfl) (by intro u hu;simp at hu;subst hu;rfl)) (by unfold maxLen;omega) (by omega) (by simp;omega) ?_;intro v' w3 ho3 hg3 ha3))
   go_roundw
   case rel=>exact⟨k+1,_,by go_num,hlt,ho3,DC (aj (aj L _) _) hg3 (fun j hj=>(Own.lt ho j hj).1)⟩
   case measure=>simp[intOf];omega
  ·obtain rfl:k=q.pcs.length:=by omega
   obtain⟨A2,c2,rfl,-,-,-,-⟩:=Own.rd ho;go_wp2_with fail
   go_ret
   exact⟨_,_,rfl,L⟩
theorem Cc: ∀(n:Nat) (l:List (Nat×Nat)),(dR n l).1.length<= l.length
 |_,[]=>Nat.le_refl _
 |n,p::l=>by
  rw[dR];split
  ·have:=Cc (n-p.2) l
   simp only[List.length_cons];omega
  ·simp
def aV {α:Type} (b:Bool) (x:Option α):Option α:=if b then x else none
structure CnS where
 q:xU
 ring:Bs
 p:PS
 phase:Nat
 since:Nat
 wL:Nat
 fed:Nat
 dO:Bool
 ending:Bool
 ended:Bool
 closed:Bool
 word:Bool
 words:List (Nat×Bool)
 taken:Nat
 laid:Nat
 whole:Nat
 told:Nat
def cn0 (now:Nat):CnS:=⟨⟨[],[],0⟩,[],p0,0,now,now,0,false,false,false,false,false,[],0,0,0,0⟩
def bG (c:CnS):Nat:=if c.closed then 5 else if c.ending&&decide (c.q.b.length=0)then 4 else if 0<c.q.b.length then 3 else min c.p.phase 2
def lY (cf:Cf) (c:CnS):Bool:= !c.ending&& (decide (c.p.phase<3)&& (decide (c.q.pcs.length<cf.pipe)&&decide (0<c.ring.length)))
def o7 (c:CnS) (r:Rs) (head:Bool) (minor:Int) (fin:Bool):CnS:=
 if(encR r head minor fin).2=0 then { c with q:=oO c.q (encR r head minor fin).1,laid:=c.laid+1,ending:=c.ending||fin } else c
def mP:Bs:= [71,69,84]
def Zb (cf:Cf) (c:CnS):Bool:=
 decide (c.p.fed<= 900000000)&& (decide (c.q.b.length<= 900000)&& (decide (c.q.pcs.length<= 10000)&& (decide (c.q.last<= 1000000)&& (decide (c.fed<= 1000000)&& (decide (c.taken<= 1000000)&& (decide (c.laid<= 1000000)&& (decide (c.whole<= 1000000)&& (decide (c.told<= 1000000)&&
  (c.ending|| (decide (3<= c.p.phase)||decide (c.q.pcs.length<cf.pipe)))))))))))
def MS (cf:Cf) (tab:List En) (c:CnS):Option (Option CnS):=
 aV (Zb cf c) (
 if lY cf c then some (some { c with p:=(aB c.p c.ring).2,ring:=c.ring.drop (aB c.p c.ring).1,fed:=c.fed+(aB c.p c.ring).1 })
 else if c.ending then some none
 else if c.p.phase=3 then aV (decide ((wE c.p).m=mP)&& (decide ((wE c.p).t.form=1)&& (decide ((wE c.p).t.path=aX)&& !(wE c.p).c)))
  (some (some (o7 { c with p:=p0,taken:=c.taken+1,word:=false } (nM tab (wE c.p).t.path) false (wE c.p).v ((wE c.p).c||c.dO))))
 else aV (decide (c.p.phase<3)&& !BD c.p) (some none))
def yj (cf:Cf) (tab:List En):Nat-> CnS-> Option CnS
 |0,_=>none
 |n+1,c=>if c.closed then some c else match MS cf tab c with
  |none=>none
  |some none=>some c
  |some (some c')=>yj cf tab n c'
def JG (c:CnS):CnS:=if decide (0<c.q.b.length)||c.closed then c else { c with closed:=c.ended|| (c.dO&& (!c.ending&& (decide (c.p.phase=0)&&decide (c.ring.length=0)))) }
def su (cf:Cf) (tab:List En) (c:CnS):Option CnS:=(yj cf tab 40 c).map JG
def yt (cf:Cf) (tab:List En) (now:Nat) (f:CnS-> Option CnS) (c:CnS):Option CnS:=
 (f c).bind fun a=>(su cf tab a).map fun b=>
   let d:= { b with phase:=bG b }
   if d.phase≠c.phase\/ (d.phase=3/\ d.told≠c.told)then { d with since:=now,wL:=now,fed:=0 } else d
def MV (cf:Cf) (tab:List En) (p:Bs) (now:Nat) (c:CnS):Option CnS:=
 if c.ending||c.ended||c.closed then some c
 else aV (decide (0<p.length)&&decide (p.length+c.ring.length<= 256)) (yt cf tab now (fun c=>su cf tab { c with ring:=c.ring++p }) c)
def qV (c:CnS) (k:Nat):CnS:=if aT c.words k=some true then { c with told:=c.told+1,words:=jO c.words k } else { c with told:=c.told+1,whole:=c.whole+1 }
def Hr (cf:Cf) (tab:List En) (n now:Nat) (c:CnS):Option CnS:=
 if c.closed then some c else aV (decide (c.words= [])&& (Zb cf c&& (c.q.pcs.all fun p=>decide (p.2<= 1000000)&&decide (p.1<= 1000000)))) (yt cf tab now (fun c=>some ((fD c.q n).2.foldl qV { c with q:=(fD c.q n).1 })) c)
def Ce (cf:Cf) (c:CnS):Option Nat:=
 if c.closed then none else some (c.since+(match c.phase with|0=>cf.idle|1=>cf.head|2=>cf.body|3=>cf.write|_=>cf.bC))
def WQ (cf:Cf) (tab:List En) (code:Int) (now:Nat) (c:CnS):Option CnS:=
 if !c.ending&& !c.closed then yt cf tab now (fun c=>some (o7 c (Gp code) false 1 true)) c else some c
def cnDue (cf:Cf) (tab:List En) (now:Nat) (c:CnS):Option CnS:=
 match Ce cf c with
 |none=>some c
 |some d=>if now<d then some c else if c.phase=1\/ c.phase=2 then WQ cf tab 408 now c else yt cf tab now (fun c=>some { c with closed:=true }) c
def Zc (c:CnS):CnS:= { c with closed:=true,phase:=5 }
def lZ (cf:Cf) (c:CnS):Bool:= !c.closed&& (!c.ended&& (c.ending|| (decide (c.ring.length<256)&&decide (c.q.pcs.length<cf.pipe))))
def jU (c:CnS):Bool:= !c.closed&&decide (0<c.q.b.length)
def o9 (c:CnS):Nat:=if c.closed then 0 else if c.ending||c.ended then 256 else 256-c.ring.length
def uw:Bool:=false
def lateR:Bool:=true
def kC:Bs:=(encR (Gp 503) false 1 true).1
def OA (cf:Cf):Bool:=decide (cf.jR=0)&& (decide (cf.idle<= 1000000)&& (decide (cf.head<= 1000000)&& (decide (cf.body<= 1000000)&& (decide (cf.write<= 1000000)&&decide (cf.bC<= 1000000)))))
structure ClS where
 c:CnS
 id:Nat
 peer:Nat
 ring:Nat
 handle:Hn
 timer:Hn
 timed:Bool
 at_:Nat
 shut:Bool
def ClS.over (x:ClS):Bool:=decide (x.c.phase=5)
structure SrS where
 cf:Cf
 tab:List En
 gate:iW
 wh:WhS
 pool:qM
 poll:fK
 net:cu
 all:List (Nat×ClS)
 handle:Hn
 reading:Bool
 fin:Nat
 accepted:Nat
 refused:Nat
 shunned:Nat
 failed:Nat
 requests:Nat
 responses:Nat
 timeouts:Nat
 eF:Bool
 stopped:Bool
def SrS.cl (s:SrS) (id:Nat):Option ClS:=aT s.all id
def SrS.put (s:SrS) (id:Nat) (x:ClS):SrS:= { s with all:=bK s.all id x }
def WR (s:SrS) (x:ClS):SrS:=
 { s with poll:=ZG s.poll x.handle,wh:=if x.timed then UD s.wh x.timer else s.wh,pool:=poPut s.pool x.ring,
          net:= { s.net.up x.id (fun c=> { c with op:=false })with op:=s.net.op-1 },gate:=gLeft s.gate x.peer,all:=jO s.all x.id,
          requests:=s.requests+x.c.taken,responses:=s.responses+x.c.whole }
def wM (s:SrS) (x:ClS):Option SrS:=
 match Ce s.cf x.c with
 |none=>none
 |some d=>aV (decide (d<4096)&& (decide (s.wh.now<4096)&& (decide (s.wh.order<= 1000000)&& (qK s.wh.dN&& (decide (x.c.phase<= 4)&& (decide (x.c.since<= 1000000)&&OA s.cf)))))) (
  if x.timed then(if d=x.at_ then some s else match aT s.wh.dZ x.timer with
   |some tm=>aV (decide (tm.level<5)&& (decide (tm.slot<64)&& (decide (x.timer.1<= 1000000000)&&decide (x.timer.2<= 1000000000)))) (some ({ s with wh:=rJ s.wh x.timer d }.put x.id { x with at_:=d }))
   |none=>none)
  else let q:=nK s.wh d (x.id:Int);some ({ s with wh:=q.1 }.put x.id { x with timer:=q.2,timed:=true,at_:=d }))
def og (now:Nat):Nat-> SrS-> Nat-> Option SrS
 |0,_,_=>none
 |k+1,s,id=>(s.cl id).bind fun x=>
  if x.over||decide (x.c.q.b.length=0)then some s
  else(s.net.aG[id]?).bind fun n=>aV (mJ n&& (!n.shut&& (decide (n.got.length<= 100000000)&& (decide (n.window<= 1099511627776)&&decide (x.c.q.b.length<= 1000000))))) (
   if n.window=0 then some s
   else(Hr s.cf s.tab (min x.c.q.b.length n.window) now x.c).bind fun c=>og now k ({ s with net:=s.net.up id fun n=>jK n x.c.q.b }.put id { x with c:=c }) id)
def hnB (h:Hn):Bool:=decide (h.1<= 1000000000)&&decide (h.2<= 1000000000)
def sO (s:SrS) (x:ClS):Bool:=(aT s.poll.all x.handle).isSome&& (hnB x.handle&& (decide (x.c.q.pcs.length<= 10000)&& (x.c.ended|| (x.c.ending|| (decide (x.c.ring.length<256)&&decide (x.c.q.pcs.length<s.cf.pipe))))))
def JH (s:SrS):Bool:=decide (s.accepted<= 1000000)&& (decide (s.refused<= 1000000)&& (decide (s.shunned<= 1000000)&& (decide (s.failed<= 1000000)&& (decide (s.requests<= 1000000)&& (decide (s.responses<= 1000000)&&decide (s.timeouts<= 1000000))))))
def gV (s:SrS) (id now:Nat):Option SrS:=
 (og now 10 s id).bind fun s=>(s.cl id).bind fun x=>
   if x.over then(s.net.aG[id]?).bind fun n=>aV (uw&&n.op) (some (WR s x))
   else
    aV (uw|| !(decide (x.c.phase=4)&& !x.shut)) <|
    let s:=if decide (x.c.phase=4)&& !x.shut then { s with net:=s.net.up id fun n=>if mJ n then { n with shut:=true } else n }.put id { x with shut:=true } else s
    (s.cl id).bind fun x=>aV (sO s x) (wM { s with poll:=iZ s.poll x.handle (lZ s.cf x.c) (jU x.c) } x)
def sS (s:SrS) (c peer now:Nat):Option SrS:=
 aV (decide (AX s.pool<s.pool.oP.length)&& (decide (s.pool.now<= 100000)&& (decide (s.pool.oP.length<= 5000)&& (qK s.poll.dN&& (!jD s.all c&& (decide (now<= 1000000)&& (JH s&&decide (c<1000)))))))) (
  let po:=jS s.pool
  let q:=mO s.poll (c:Int) false false
  aV (s.poll.all.all fun x=>x.2.id !=(c:Int)) (
   let x:ClS:=⟨cn0 now,c,peer,po.2,q.2,(0,0),false,0,false⟩
   gV { s with pool:=po.1,poll:=q.1,all:=bK s.all c x,accepted:=s.accepted+1 } c now))
def pq (s:SrS) (now:Nat):Option (SrS×Bool):=
 aV (!s.net.stopped&& (JH s&& (decide (s.net.fails<= 1000000)&& (decide (s.net.op<= 1000000)&& (decide (s.gate.all<= 1000000)&& (decide (s.gate.failures<= 1000000)&& (decide (s.gate.delay<= 1073741824)&&decide (now<= 1000000)))))))) (match s.net.queue with
 | []=>none
 |c::r=>if 0<s.net.fails then some ({ s with net:= { s.net with fails:=s.net.fails-1 },failed:=s.failed+1,gate:=lV s.cf s.gate now },false)
  else(s.net.aG[c]?).bind fun n=>
   let q:=pI s.cf s.gate n.peer
   aV (decide (n.peer<= 1000000)&&decide (gIn s.gate n.peer<= 1000000)) (
    let s:= { s with net:= { s.net.up c eH with queue:=r,op:=s.net.op+1 },gate:=q.1 }
    if q.2=1 then(sS s c n.peer now).map fun s=>(s,true)
    else aV (lateR&& (decide (q.2=2)&& (!n.broken&& (!n.shut&& (decide (n.got.length<= 100000000)&& (decide (0<n.window)&& (decide (n.window<= 1099511627776)&&decide (s.net.op<= 1000000)))))))) (
     some ({ s with net:= { (s.net.up c fun n=>jK n kC).up c (fun n=> { n with op:=false })with op:=s.net.op-1 },refused:=s.refused+1 },true))))
def kP (s:SrS):Bool:=decide (s.pool.now<s.cf.jg)
def dJ (now:Nat):Nat-> SrS-> Option SrS
 |0,s=>some s
 |k+1,s=>if s.net.queue.length=0|| !Dl s.cf s.gate now then some s
  else aV (!s.cf.dV) ((pq s now).bind fun r=>if r.2 then dJ now k r.1 else some r.1)
def Hu (s:SrS) (id:Nat) (rd:Bool) (now:Nat):Option SrS:=
 (s.cl id).bind fun x=>(s.net.aG[id]?).bind fun n=>
   if rd&&decide (0<o9 x.c)then aV (mJ n&& (decide (0<n.inp.length)&& (decide (n.inp.length<= 1000000)&&decide (n.told.length<= 100000000)))) (
    (MV s.cf s.tab (n.inp.take (o9 x.c)) now x.c).bind fun c=>gV ({ s with net:=s.net.up id fun n=>AV n (o9 x.c) }.put id { x with c:=c }) id now)
   else gV s id now
def aaK (now:Nat) (s:SrS) (id:Nat):Option SrS:=
 (s.cl id).bind fun x=>(cnDue s.cf s.tab now x.c).bind fun c=>
   gV ({ s with timeouts:=s.timeouts+(if decide (c.phase=5)|| (decide (x.c.laid<c.laid)&&decide (x.c.phase≠4))then 1 else 0) }.put id { x with timed:=false,c:=c }) id now
def JI (s:WhS) (now:Nat):Bool:=
 let s':= { s with now:=min (max now s.now) ticks }
 decide (s.now<4096)&& (decide (now<4096)&& (((List.range 4).all fun l=>(fZ s.now s'.now l).all fun k=>decide ((s'.lists l k).length<= 1))&&
  (match iy s' s.now with
  | []=>true
  | [a]=>decide (a.1<= 1000000000)&& (decide (a.2<= 1000000000)&& (match aT s.dZ a with|some x=>decide (x.level<5)&& (decide (x.slot<64)&& (decide (x.at_<4096)&& (decide (1<= s.dN.len)&&decide (s.dN.len<= 1000000))))|none=>false))
  |_=>false)))
def zC (s:SrS) (now:Nat):Option SrS:=
 aV (JI s.wh now&& (uw|| (vY s.wh now).2.isEmpty)) (
  (vY s.wh now).2.foldlM (fun s id=>aV (decide (0<= id)) (aaK now s id.toNat)) { s with wh:=(vY s.wh now).1 })
def uT (s:SrS) (now:Nat):Nat:=min (max now s.wh.now) ticks
def JJ (now:Nat) (f:CnS-> Option CnS) (s:SrS) (ids:List Nat):Option SrS:=
 ids.foldlM (fun s id=>(s.cl id).bind fun x=>(f x.c).bind fun c=>gV (s.put id { x with c:=c }) id now) s
def aaL (s:SrS):List Nat:=(s.all.map (·.1)).mergeSort
def JK (now:Nat):List Ev-> SrS-> Option SrS
 | [],s=>some s
 |v::l,s=>(if v.id= -1 then dJ now 16 s else aV (decide (0<= v.id)&&decide (v.id<= 1000000)) <| if(s.cl v.id.toNat).isSome then Hu s v.id.toNat v.rd now else some s).bind (JK now l)
def wsB (n:cu) (x:WS):Bool:=decide (x.id= -1)|| (decide (0<= x.id)&&match n.aG[x.id.toNat]? with|some c=> !c.halved&& !c.broken|none=>false)
def WT (s:SrS):Bool:=decide (s.poll.dN.slots.length<= 5000)&& (iV s.poll.dN).all fun a=>hnB a&&match aT s.poll.all a with|some x=>wsB s.net x|none=>false
def kD (s:SrS) (now:Nat):Option (SrS×Nat):=
 if s.stopped then some (s,0)else
  (zC s (uT s now)).bind fun s1=>
    let now:=uT s now
    if s1.eF&&decide (s1.fin<= now)then aV uw <| (JJ now (fun c=>some (Zc c)) s1 (aaL s1)).map fun s2=>({ s2 with poll:=ZG s2.poll s2.handle,stopped:=true },0)
    else
     let may:=Dl s1.cf s1.gate now&& (kP s1|| (s1.cf.refuse||s1.cf.dV))
     let s2:=if may=s1.reading then s1 else { s1 with reading:=may,poll:=iZ s1.poll s1.handle may false }
     let l:=Ja s2.net s2.poll
     aV ((aT s1.poll.all s1.handle).isSome&& (hnB s1.handle&& (WT s2&&decide (now<= 1000000)))) <| (JK now l s2).map fun s3=>(s3,l.length)
structure WlS where
 s:SrS
 many:Nat
 now:Nat
def yS (cf:Cf) (tab:List En):SrS:=
 let w:=mO ⟨⟨4096,[],0⟩,[]⟩ (-1) true false
 ⟨cf,tab,⟨[],0,0,0,0,false⟩,wh0 0,⟨List.replicate cf.jg false,0,0⟩,w.1,⟨8,[],[],false,0,0,0⟩,[],w.2,true,0,0,0,0,0,0,0,0,false,false⟩
def Ci (cf:Cf) (tab:List En):WlS:=⟨yS cf tab,0,0⟩
def sZ (w:WlS) (peer:Nat):Option WlS:=aV (!w.s.net.stopped&& (decide (w.s.net.queue.length<w.s.net.backlog)&& (decide (w.s.net.aG.length<100)&& (decide (w.s.net.backlog<= 64)&& (decide (w.s.net.marks<= 1000000)&& (decide (peer<= 255)&&decide (w.many<= 1000))))))) (some { w with s:= { w.s with net:=fJ w.s.net peer },many:=w.many+1 })
def MW (w:WlS) (c:Nat) (p:Bs):Option WlS:=(w.s.net.aG[c]?).bind fun n=>aV (nJ n&& (!n.halved&& (decide (n.inp.length<= 1024)&& (decide (n.rd<= 1000000)&&decide (p.length<= 1000000))))) (some { w with s:= { w.s with net:=w.s.net.up c fun n=>qL n p } })
def WU (w:WlS) (c b:Nat):Option WlS:=(w.s.net.aG[c]?).bind fun n=>aV (nJ n&& (decide (n.window<= 1099511627776)&& (decide (n.wr<= 1000000)&&decide (b<= 1099511627776)))) (some { w with s:= { w.s with net:=w.s.net.up c fun n=>mM n b } })
def JL (w:WlS) (k:Nat):WlS:= { w with s:= { w.s with net:= { w.s.net with fails:=k } } }
def MX (w:WlS) (n:Nat):Option WlS:=let t:=w.now+min n (ticks-w.now);aV (decide (w.now<= 1000000)&&decide (n<= 1000000)) ((kD w.s t).map fun r=>⟨r.1,w.many,t⟩)
def oh:Nat-> Nat-> WlS-> Option WlS
 |0,_,w=>some w
 |k+1,i,w=>(w.s.net.aG[i]?).bind fun n=>(if n.op||n.waits then WU w i 1048576 else some w).bind (oh k (i+1))
def qW:Nat-> WlS-> Option WlS
 |0,w=>some w
 |k+1,w=>(oh w.many 0 w).bind fun w1=>(kD w1.s w1.now).bind fun r=>qW k { w1 with s:=r.1 }
def cf1:Cf:=⟨4,4,2,4,50,20,30,40,10,0,0,2,16,false,false⟩
def tK:List En:= [⟨[47,97],[116,101,120,116,47,112,108,97,105,110],[104,101,108,108,111]⟩,⟨[47,115],[115,116,114,101,97,109,47,120],[48,49,50,51,52,53,54,55,56,57,48,49,50,51,52,53,54,55,56,57,48,49,50,51,52,53,54,55,56,57,48,49,50,51,52,53,54,55,56,57]⟩]
def MZ (x:jh):Array Value:=#[nV x.at_,.int .i64 x.what,nV x.order,nV x.level,nV x.slot]
abbrev TL:=List (Hn×(Nat×jh))
def Cj (now order gs bt:Nat) (LB:Nat-> Nat):Array Value:=([nV now,nV order,pV gs,.map (some bt)]++(List.range 320).map fun k=>Value.map (some (LB k))).toArray
structure WhB (w:World) (t:Nat-> Nat) (m g:Nat) (s:WhS) (gs bt:Nat) (LB:Nat-> Nat) (T:TL):Prop where
 b:BT w t m g 140 (Cj s.now s.order gs bt LB)
 sb:jT w t (m+1) gs s.dN
 a:MT w t (m+6) bt hnV iH (fun y:Nat×jh=>pV y.1) T
 l:T.map (fun x=>(x.1,x.2.2))=s.dZ
 d:(T.map (·.2.1)).Nodup
 x: ∀y∈T,BT w t (m+7) y.2.1 213 (MZ y.2.2)
 z: ∀k,k<320-> MT w t (m+20+k) (LB k) hnV iH Value.bool (s.lists (k / 64) (k % 64))
def WhK (w:World) (t:Nat-> Nat) (m g:Nat) (s:WhS):Prop:= ∃gs bt LB T,WhB w t m g s gs bt LB T
theorem WhB.keep {S:Nat-> Prop} {w w':World} {t t':Nat-> Nat} {m g:Nat} {s:WhS} {gs bt:Nat} {LB:Nat-> Nat} {T:TL} (h:WhB w t m g s gs bt LB T) (st:Stp S w t w' t') (h0: ∀y,Mk m 340 y-> ¬S y):WhB w' t' m g s gs bt LB T:=
 ⟨h.b.keep st (h0 _ (by omega)),h.sb.keep st (h0 _ (by omega)) (h0 _ (by omega)),h.a.keep st (h0 _ (by omega)),h.l,h.d,fun y hy=>(h.x y hy).keep st (h0 _ (by omega)),fun k hk=>(h.z k hk).keep st (h0 _ (by omega))⟩
theorem WhK.keep {S:Nat-> Prop} {w w':World} {t t':Nat-> Nat} {m g:Nat} {s:WhS} (h:WhK w t m g s) (st:Stp S w t w' t') (h0: ∀y,Mk m 340 y-> ¬S y):WhK w' t' m g s:=by
 obtain⟨gs,b,LB,T,a⟩:=h;exact⟨gs,b,LB,T,a.keep st h0⟩
theorem WhB.get {w:World} {t:Nat-> Nat} {m g:Nat} {s:WhS} {gs bt:Nat} {LB:Nat-> Nat} {T:TL} (h:WhB w t m g s gs bt LB T) (a:Hn):aT s.dZ a=(aT T a).map (·.2):=by
 rw[<- h.l];exact nT (fun y:Nat×jh=>y.2) T a
theorem WV (now order gs bt now':Nat) (LB:Nat-> Nat):(Cj now order gs bt LB).setIfInBounds 0 (nV now')=Cj now' order gs bt LB:=by simp[Cj]
theorem Na (now order gs bt o':Nat) (LB:Nat-> Nat):(Cj now order gs bt LB).setIfInBounds 1 (nV o')=Cj now o' gs bt LB:=by simp[Cj]
theorem Zd (now order gs bt:Nat) (LB:Nat-> Nat) (k:Nat) (hk:k<320):(Cj now order gs bt LB)[4+k]? = some (.map (some (LB k))):=by
 simp only[Cj,List.getElem?_toArray];rw[List.getElem?_append_right (by simp)]
 simp[hk]
theorem WhB.cs {w:World} {t:Nat-> Nat} {m g:Nat} {s:WhS} {gs bt:Nat} {LB:Nat-> Nat} {T:TL} (h:WhB w t m g s gs bt LB T):
 w.cell? ⟨g,0,none⟩=some (nV s.now)/\ w.cell? ⟨g,1,none⟩=some (nV s.order)/\ w.cell? ⟨g,2,none⟩=some (pV gs)/\ w.cell? ⟨g,3,none⟩=some (.map (some bt)):=
 ⟨h.b.b.cell 0,h.b.b.cell 1,h.b.b.cell 2,h.b.b.cell 3⟩
theorem WhB.at_ {w:World} {t:Nat-> Nat} {m g:Nat} {s:WhS} {gs bt:Nat} {LB:Nat-> Nat} {T:TL} (h:WhB w t m g s gs bt LB T) (k:Nat) (hk:k<320):w.cell? ⟨g,4+k,none⟩=some (.map (some (LB k))):=
 (h.b.b.cell (4+k)).trans (Zd _ _ _ _ _ k hk)
theorem JM (now at_:Nat) (h1:now<4096) (h2:at_<4096) (h:now<at_):dS now at_=if at_ / 64=now / 64 then(0,at_ % 64)else(1,(at_ / 64) % 64):=by
 have e0:at_ >>> 6=at_ / 64:=by rw[Nat.shiftRight_eq_div_pow]
 have e1:now >>> 6=now / 64:=by rw[Nat.shiftRight_eq_div_pow]
 have e2:at_ >>> 12=0:=by rw[Nat.shiftRight_eq_div_pow];omega
 have e3:now >>> 12=0:=by rw[Nat.shiftRight_eq_div_pow];omega
 by_cases hh:at_ / 64=now / 64
 ·have hl:um now at_=0:=by rw[um,e0,e1,if_pos hh]
  simp[dS,hl,hh,Nat.not_le.2 h]
 ·have hl:um now at_=1:=by rw[um,e0,e1,if_neg hh,e2,e3,if_pos rfl]
  simp[dS,hl,hh,Nat.not_le.2 h,e0]
theorem QU (w:World) (g now at_:Nat) (h1:now<4096) (h2:at_<4096) (j0:w.cell? ⟨g,0,none⟩=some (nV now)):
 Calls Tryz.prog 180 #[pV g,nV at_] w fun e w'=>e= .returned (.tuple #[nV (dS now at_).1,nV (dS now at_).2])/\ ∃q,w'=w.drewN q:=by
 have a6:(at_:Int) >>> 6=((at_ / 64:Nat):Int):=by rw[Int.shiftRight_eq_div_pow];omega
 have n6:(now:Int) >>> 6=((now / 64:Nat):Int):=by rw[Int.shiftRight_eq_div_pow];omega
 have a12:(at_:Int) >>> 12=0:=by rw[Int.shiftRight_eq_div_pow];omega
 have n12:(now:Int) >>> 12=0:=by rw[Int.shiftRight_eq_div_pow];omega
 rcases hlt:decide (at_<= now)with _|_;rotate_left
 ·have HR:=Lib.hid (show dS now at_=(0,now % 64) by rw[dS,if_pos (by simpa using hlt)])
  go_enter Tryz.func180,Tryz.ntmps180
  go_upto_region 2 with(fail)
  go_quiet (fail)
  go_wp2_with fail
  go_ret2
  exact⟨by rw[HR.out];rfl,_,rfl⟩
 ·have hlt':now<at_:=by simpa using hlt
  have HR:=Lib.hid (show dS now at_=if at_ / 64=now / 64 then(0,at_ % 64)else(1,(at_ / 64) % 64)from JM now at_ h1 h2 hlt')
  go_enter Tryz.func180,Tryz.ntmps180
  go_upto_region 3 with(fail)
  go_loopw [4] (fun z wr=> ∃q,wr=w.drewN q/\ (z= .int .i64 0\/ (z= .int .i64 1/\ at_ / 64≠now / 64))) (fun z _=>2- (intOf z).toNat)
  case atStart=>exact⟨0,rfl,.inl rfl⟩
  case round=>
   obtain⟨q,rfl,rfl| ⟨rfl,hne⟩⟩:=hrel
   ·rcases he:decide (at_ / 64=now / 64)with _|_
    ·have hne:at_ / 64≠now / 64:=by simpa using he
     have d1:((at_:Int) / 64 !=(now:Int) / 64)=true:=bne_iff_ne.2 (by omega)
     go_upto_region 3 with(fail)
     go_quiet (fail)
     go_wp2_with fail
     go_roundw
     case rel=>exact⟨_,rfl,.inr ⟨rfl,hne⟩⟩
     case measure=>simp[intOf]
    ·have heq:at_ / 64=now / 64:=by simpa using he
     have d1:((at_:Int) / 64 !=(now:Int) / 64)=false:=bne_eq_false_iff_eq.2 (by omega)
     go_upto_region 3 with(fail)
     go_quiet (fail)
     go_wp2_with fail
     go_quiet (fail)
     go_wp2_with fail
     go_ret2
     exact⟨by rw[HR.out,if_pos heq];rfl,_,World.drewN_drewN ..⟩
   ·go_upto_region 3 with(fail)
    go_quiet (fail)
    go_wp2_with fail
    go_quiet (fail)
    go_wp2_with fail
    go_ret2
    exact⟨by rw[HR.out,if_neg hne];rfl,_,World.drewN_drewN ..⟩
end Go.Proofs.YtdmondfpepbniaaGreatDoor
