/- Part 10 of the proof: Vp Kon. -/
import Derived.Test.YtdmondfpepbniaaGreatDoorQ08
namespace Go.Proofs.YtdmondfpepbniaaGreatDoor
open Go.RowKit
set_option maxRecDepth 100000
set_option maxHeartbeats 4000000
set_option linter.all false
abbrev Hn:=Nat×Nat
structure fG where
 gen:Nat
 used:Bool
 v:Int
structure iU where
 limit:Nat
 slots:List fG
 len:Nat
def aP (l:List fG):Nat:=l.findIdx fun x=> !x.used
def dQ (s:iU) (v:Int):iU×Hn:=
 let i:=aP s.slots
 match s.slots[i]? with
 |some x=>({ s with slots:=s.slots.set i ⟨x.gen+1,true,v⟩,len:=s.len+1 },(i,x.gen+1))
 |none=>({ s with slots:=s.slots++ [⟨1,true,v⟩],len:=s.len+1 },(i,1))
def oN (s:iU) (h:Hn):Bool:=match s.slots[h.1]? with|some x=>x.used&&x.gen==h.2|none=>false
def gY (s:iU) (h:Hn):iU:=if oN s h then { s with slots:=s.slots.modify h.1 fun x=> { x with used:=false },len:=s.len-1 } else s
def fH:Nat-> List fG-> List Hn
 |_,[]=> []
 |i,x::l=>if x.used then(i,x.gen)::fH (i+1) l else fH (i+1) l
def iV (s:iU):List Hn:=fH 0 s.slots
def qK (s:iU):Bool:=decide (s.len<s.limit)&& (decide (s.limit<= 4096)&& (decide (s.slots.length<= 4096)&&s.slots.all fun x=>decide (x.gen<= 1000000)))
structure xU where
 b:Bs
 pcs:List (Nat×Nat)
 last:Nat
def oO (q:xU) (x:Bs):xU:=⟨q.b++x,q.pcs++ [(q.last+1,x.length)],q.last+1⟩
def dR:Nat-> List (Nat×Nat)-> List Nat×List (Nat×Nat)
 |_,[]=>([],[])
 |n,p::l=>if p.2<= n then(p.1::(dR (n-p.2) l).1,(dR (n-p.2) l).2)else([],(p.1,p.2-n)::l)
def fD (q:xU) (n:Nat):xU×List Nat:=let k:=min n q.b.length;(⟨q.b.drop k,(dR k q.pcs).2,q.last⟩,(dR k q.pcs).1)
structure Cf where
 jE:Nat
 jF:Nat
 pipe:Nat
 jg:Nat
 idle:Nat
 head:Nat
 body:Nat
 write:Nat
 bC:Nat
 jR:Nat
 gJ:Nat
 base:Nat
 cap:Nat
 refuse:Bool
 dV:Bool
structure iW where
 inn:List (Nat×Nat)
 all:Nat
 failures:Nat
 delay:Nat
 till:Nat
 stopped:Bool
def vX (c:Cf) (g:iW):Bool:=decide (c.jE<= g.all)
def Dl (c:Cf) (g:iW) (now:Nat):Bool:= !g.stopped&& (decide (g.till<= now)&& (!vX c g|| (c.refuse||c.dV)))
def gIn (g:iW) (p:Nat):Nat:=(aT g.inn p).getD 0
def pI (c:Cf) (g:iW) (p:Nat):iW×Nat:=
 if gIn g p<c.jF/\ vX c g=false then({ g with failures:=0,inn:=bK g.inn p (gIn g p+1),all:=g.all+1 },1)
 else({ g with failures:=0 },if c.refuse then 2 else 3)
def ticks:Nat:=1099511627776
def lV (c:Cf) (g:iW) (now:Nat):iW:=
 let d:=min c.cap (if g.failures=0 then c.base else min c.cap (2*g.delay))
 { g with failures:=g.failures+1,delay:=d,till:=min now ticks+d }
def gLeft (g:iW) (p:Nat):iW:=if 0<gIn g p then { g with inn:=bK g.inn p (gIn g p-1),all:=g.all-1 } else g
structure NC where
 waits:Bool
 op:Bool
 broken:Bool
 peer:Nat
 halved:Bool
 shut:Bool
 taken:Bool
 inp:Bs
 window:Nat
 rd:Nat
 wr:Nat
 got:Bs
 told:Bs
structure cu where
 backlog:Nat
 aG:List NC
 queue:List Nat
 stopped:Bool
 fails:Nat
 marks:Nat
 op:Nat
def nc0 (peer:Nat):NC:=⟨true,false,false,peer,false,false,false,[],0,0,0,[],[]⟩
def fJ (n:cu) (peer:Nat):cu:= { n with aG:=n.aG++ [nc0 peer],queue:=n.queue++ [n.aG.length],marks:=n.marks+1 }
def cu.up (n:cu) (i:Nat) (f:NC-> NC):cu:= { n with aG:=n.aG.modify i f }
def nJ (x:NC):Bool:= !x.broken&& (x.waits||x.op)
def mJ (x:NC):Bool:= !x.waits&& (x.op&& !x.broken)
def qL (x:NC) (p:Bs):NC:=let q:=p.take (1024-x.inp.length);{ x with inp:=x.inp++q,rd:=x.rd+(if 0<q.length then 1 else 0) }
def mM (x:NC) (b:Nat):NC:= { x with window:=x.window+min b (1099511627776-x.window),wr:=x.wr+(if 0<b then 1 else 0) }
def eH (x:NC):NC:= { x with waits:=false,op:=true,taken:=true }
def AV (x:NC) (most:Nat):NC:= { x with inp:=x.inp.drop most,told:=x.told++x.inp.take most }
def jK (x:NC) (p:Bs):NC:= { x with got:=x.got++p.take x.window,window:=x.window- (p.take x.window).length }
def Ob (x:NC):Bool×Bool:=if x.op then(decide (0<x.inp.length)|| (x.halved||x.broken),(decide (0<x.window)&& !x.shut)||x.broken)else(false,false)
def iY (n:cu) (id:Int):Bool×Bool:=if id= -1 then(decide (0<n.queue.length),false)else match n.aG[id.toNat]? with|some x=>Ob x|none=>(false,false)
structure WS where
 id:Int
 rd:Bool
 wr:Bool
structure fK where
 dN:iU
 all:List (Hn×WS)
def mO (p:fK) (id:Int) (rd wr:Bool):fK×Hn:=let q:=dQ p.dN id;(⟨q.1,bK p.all q.2 ⟨id,rd,wr⟩⟩,q.2)
def iZ (p:fK) (h:Hn) (rd wr:Bool):fK:=match aT p.all h with|some x=> { p with all:=bK p.all h { x with rd:=rd,wr:=wr } } |none=>p
def ZG (p:fK) (h:Hn):fK:=⟨gY p.dN h,jO p.all h⟩
structure Ev where
 h:Hn
 id:Int
 rd:Bool
 wr:Bool
def pJ (n:cu) (w:WS):Bool×Bool:=((iY n w.id).1&&w.rd,(iY n w.id).2&&w.wr)
def kN (n:cu) (p:fK):List Hn-> List Ev
 | []=> []
 |h::l=>match aT p.all h with
  |some w=>if(pJ n w).1|| (pJ n w).2 then⟨h,w.id,(pJ n w).1,(pJ n w).2⟩::kN n p l else kN n p l
  |none=>kN n p l
def Ja (n:cu) (p:fK):List Ev:=kN n p (iV p.dN)
structure jh where
 at_:Nat
 what:Int
 order:Nat
 level:Nat
 slot:Nat
structure WhS where
 now:Nat
 order:Nat
 dN:iU
 dZ:List (Hn×jh)
 lists:Nat-> Nat-> List (Hn×Bool)
def wh0 (now:Nat):WhS:=⟨now,0,⟨4096,[],0⟩,[],fun _ _=> []⟩
def um (now at_:Nat):Nat:=if at_ >>> 6=now >>> 6 then 0 else if at_ >>> 12=now >>> 12 then 1 else if at_ >>> 18=now >>> 18 then 2 else if at_ >>> 24=now >>> 24 then 3 else 4
def dS (now at_:Nat):Nat×Nat:=if at_<= now then(0,now % 64)else if um now at_=4 then(4,0)else(um now at_,(at_ >>>(6*um now at_)) % 64)
def upL (f:Nat-> Nat-> List (Hn×Bool)) (a b:Nat) (l:List (Hn×Bool)):Nat-> Nat-> List (Hn×Bool):=fun x y=>if x=a/\ y=b then l else f x y
def iG (w:WhS) (h:Hn) (t:jh):WhS:=
 let p:=dS w.now t.at_
 { w with dZ:=bK w.dZ h { t with level:=p.1,slot:=p.2 },lists:=upL w.lists p.1 p.2 (bK (w.lists p.1 p.2) h true) }
def fV (w:WhS) (h:Hn) (t:jh):WhS:= { w with lists:=upL w.lists t.level t.slot (jO (w.lists t.level t.slot) h) }
def nK (w:WhS) (at_:Nat) (what:Int):WhS×Hn:=let q:=dQ w.dN what;(iG { w with dN:=q.1,order:=w.order+1 } q.2 ⟨at_,what,w.order+1,0,0⟩,q.2)
def rJ (w:WhS) (h:Hn) (at_:Nat):WhS:=match aT w.dZ h with
 |some t=>iG { fV w h t with order:=w.order+1 } h { t with at_:=at_,order:=w.order+1 }
 |none=>w
def UD (w:WhS) (h:Hn):WhS:=match aT w.dZ h with
 |some t=> { fV w h t with dZ:=jO w.dZ h,dN:=gY w.dN h }
 |none=>w
def fZ (was now lvl:Nat):List Nat:=(List.range (min 64 (now >>>(6*lvl)-was >>>(6*lvl)+1))).map fun i=>(was >>>(6*lvl)+i) % 64
def gZ (w:WhS) (was lvl:Nat):List Hn:=(fZ was w.now lvl).flatMap fun s=>(w.lists lvl s).map (·.1)
def iy (w:WhS) (was:Nat):List Hn:=
 gZ w was 0++(gZ w was 1++(gZ w was 2++(gZ w was 3++(if was >>> 24=w.now >>> 24 then []else(w.lists 4 0).map (·.1)))))
def UE (a:WhS×List jh) (h:Hn):WhS×List jh:=match aT a.1.dZ h with
 |some t=>if a.1.now<t.at_ then(iG (fV a.1 h t) h t,a.2)else({ fV a.1 h t with dZ:=jO a.1.dZ h,dN:=gY a.1.dN h },a.2++ [t])
 |none=>a
def uJ (w:WhS) (now:Nat):WhS×List jh:=let w':= { w with now:=min (max now w.now) ticks };(iy w' w.now).foldl UE (w',[])
def vY (w:WhS) (now:Nat):WhS×List Int:=((uJ w now).1,(uJ w now).2.map (·.what))
structure qM where
 oP:List Bool
 now:Nat
 most:Nat
def AX (p:qM):Nat:=p.oP.findIdx fun x=> !x
def jS (p:qM):qM×Nat:=({ oP:=p.oP.set (AX p) true,now:=p.now+1,most:=max p.most (p.now+1) },AX p)
def poPut (p:qM) (n:Nat):qM:=if p.oP[n]? = some true then { p with oP:=p.oP.set n false,now:=p.now-1 } else p
structure En where
 path:Bs
 kind:Bs
 data:Bs
def ctN:Bs:= [67,111,110,116,101,110,116,45,84,121,112,101]
def okR (kind body:Bs):Rs:=⟨200,[(ctN,kind)],body,[]⟩
def UF:Nat-> Nat-> Nat-> List Int
 |0,_,_=> []
 |k+1,at_,n=>if at_<n+16 then((min at_ n:Nat):Int)::UF k (at_+16) n else []
def UG (k:Bs):Bool:= [115,116,114,101,97,109].isPrefixOf k
def enR (x:En):Rs:=if UG x.kind&&decide (0<x.data.length)then { okR x.kind x.data with p:=UF (x.data.length+1) 16 x.data.length } else okR x.kind x.data
def Gp (c:Int):Rs:=⟨c,lN c [],lQ c,[]⟩
def aX:Bs:= [47,115,116,97,116,117,115]
def nM (tab:List En) (path:Bs):Rs:=if path=aX then okR [116,101,120,116,47,112,108,97,105,110] [111,107,10]else match tab.find? fun x=>x.path=path with|some x=>enR x|none=>Gp 404
def Gq (r:CS) (vl vb vt:Value):Array Value:=#[.int .i64 r.place,vl,.int .i64 r.left,vb,vt,.int .i64 r.ends,.bool r.whole,.int .i64 r.status]
def KA (w:World) (g:Nat) (vl vb vt:Value) (r:CS):Prop:=O3 w 399 g (Gq r vl vb vt) vl vb vt r.line r.body r.trs
def nN (w:World) (g:Nat) (vl vb vt:Value) (r:CS) (e:Ending) (w':World):Prop:=
 e= .returned (.tuple #[])/\ ∃vl' vb' vt',KA w' g vl' vb' vt' r/\ Moved (foot g vl vb vt) (foot g vl' vb' vt') w w'
theorem dG {w w':World} {T:TypeId} {g:Nat} {cs:Array Value} {vl vb vt vl' vb' vt':Value} {L B:Bs} {F:List Fd} {r:CS} (h:KW w (foot g vl vb vt) w' T g cs vl' vb' vt' L B F)
 (hT:T=399) (hc:cs=Gq r vl' vb' vt') (hL:L=r.line) (hB:B=r.body) (hF:F=r.trs):nN w g vl vb vt r (.returned (.tuple #[])) w':=by
 subst hT hc hL hB hF;exact⟨rfl,_,_,_,h.o,h.m⟩
theorem AY (g:Nat) (vl vb vt:Value) (r:CS) (c:UInt8) (w:World) (h:KA w g vl vb vt r) (hi:lu r) (hp:r.place=1):
 Calls Tryz.prog 333 #[.pointer (some ⟨g,0,none⟩),.int .u8 (c.toNat:Int)] w (nN w g vl vb vt (dF r c)):=by
 obtain⟨j0,j1,j2,j3,j4,j5,j6,j7,i0,i1,i2,i3,i4,i5,i6,i7⟩:=Blk.c8 h.blk;rw[hp]at j0;have hd:=hi.data hp;have hb:=hi.body;rw[if_pos hp]at hb;have hK:=KW.refl h;obtain⟨Ab,cb,rfl,hb1,hb2,hb3⟩:=h.ob.form;by_cases hl:r.left=1
 ·rw[hl]at j2
  have HR:=Lib.hid (show dF r c= { r with body:=r.body++ [c],place:=2,left:=2 } by rw[dF,if_pos hp,if_pos hl])
  go_enter Tryz.func333,Tryz.ntmps333
  go_wp2_with (at_builtin;refine iw rfl _ _ rfl 0 (.slice Ab r.body.length cb) _ rfl h.ob _ rfl _ rfl c rfl (by omega) (Nat.zero_le _) ?_;intro v' w2 ho2 hx;have h2:=hK.Dh hx ho2;obtain⟨A3,c3,hv3,hc31,hc32,TT⟩:=ho2.form;rw[show(r.body++ [c]).length=r.body.length+1 by simp]at hv3;subst hv3;obtain⟨k0,k1,k2,k3,k4,k5,k6,k7,n0,n1,n2,n3,n4,n5,n6,n7⟩:=Blk.c8 h2.o.blk;rw[hl]at k2;rw[hp]at k0;clear ho2 hx)
  go_end0
  exact dG (h2.ay.ay.ay.ay) rfl (by rw[HR.out];rfl) (by rw[HR.out]) (by rw[HR.out]) (by rw[HR.out])
 ·have HR:=Lib.hid (show dF r c= { r with body:=r.body++ [c],left:=r.left-1 } by rw[dF,if_pos hp,if_neg hl])
  have e2:((r.left:Int)-1)=((r.left-1:Nat):Int):=by omega
  have hl2:2<= r.left:=by omega
  go_enter Tryz.func333,Tryz.ntmps333
  go_wp2_with (at_builtin;refine iw rfl _ _ rfl 0 (.slice Ab r.body.length cb) _ rfl h.ob _ rfl _ rfl c rfl (by omega) (Nat.zero_le _) ?_;intro v' w2 ho2 hx;have h2:=hK.Dh hx ho2;obtain⟨A3,c3,hv3,hc31,hc32,TT⟩:=ho2.form;rw[show(r.body++ [c]).length=r.body.length+1 by simp]at hv3;subst hv3;obtain⟨k0,k1,k2,k3,k4,k5,k6,k7,n0,n1,n2,n3,n4,n5,n6,n7⟩:=Blk.c8 h2.o.blk;rw[hp]at k0;clear ho2 hx)
  go_end0
  exact dG (h2.ay.ay) rfl (by rw[HR.out];rfl) (by rw[HR.out]) (by rw[HR.out]) (by rw[HR.out])
theorem Jb {c d:UInt8} (h:c≠d) {n:Int} (hn:(d.toNat:Int)=n):((c.toNat:Int)==n)=false:=by
 rw[Bool.eq_false_iff];intro h2;rw[beq_iff_eq]at h2;exact h (Ic (by omega))
theorem UH:(Tryz.prog.info? 5).map (·.size)=some 1:=by kernel_rfl
@[go_sem high] theorem run_index_arr (a b:Value) (i:Int) (w:World) (h:0<= i/\ i<2):
   (Instr.index 412 (.agg #[a,b]) (.int .i64 i)).run Tryz.prog w= .ok (if i=0 then a else b) w:=by
  obtain⟨j,hj,hjs⟩:=Option.map_eq_some_iff.1 UH;have hu:Tryz.prog.underlying 412=some (.array 2 5):=Tryz.underlying412;have:i=0\/ i=1:=by omega
  rcases this with rfl|rfl
  ·simp[Instr.index,run_underlying hu,asIntOf,go_sem,sizeOf,typeInfo,hj,hjs,part,typeInfo]
  ·simp[Instr.index,run_underlying hu,asIntOf,go_sem,sizeOf,typeInfo,hj,hjs,part,typeInfo]
theorem Dn (g:Nat) (vl vb vt:Value) (r:CS) (c:UInt8) (w:World) (h:KA w g vl vb vt r) (hi:lu r) (hp:r.place=2):
 Calls Tryz.prog 333 #[.pointer (some ⟨g,0,none⟩),.int .u8 (c.toNat:Int)] w (nN w g vl vb vt (dF r c)):=by
 obtain⟨j0,j1,j2,j3,j4,j5,j6,j7,i0,i1,i2,i3,i4,i5,i6,i7⟩:=Blk.c8 h.blk;rw[hp]at j0;have hK:=KW.refl h;rcases hi.fin hp with hl|hl
 ·rw[hl]at j2
  by_cases hc:c=10
  ·subst hc
   have HR:=Lib.hid (show dF r 10= { r with place:=0,left:=0 } by rw[dF,if_neg (by omega),if_pos hp,hl];rfl)
   go_enter Tryz.func333,Tryz.ntmps333
   go_wp2
   go_end0
   exact dG (hK.ay.ay) rfl (by rw[HR.out];rfl) (by rw[HR.out]) (by rw[HR.out]) (by rw[HR.out])
  ·have HR:=Lib.hid (show dF r c= { r with status:=400 } by rw[dF,if_neg (by omega),if_pos hp,hl];simp[hc])
   have hc2:=Jb hc (n:=10) rfl;go_enter Tryz.func333,Tryz.ntmps333
   go_wp2
   go_end0
   exact dG (hK.ay) rfl (by rw[HR.out];rfl) (by rw[HR.out]) (by rw[HR.out]) (by rw[HR.out])
 ·rw[hl]at j2
  by_cases hc:c=13
  ·subst hc
   have HR:=Lib.hid (show dF r 13= { r with left:=1 } by rw[dF,if_neg (by omega),if_pos hp,hl];rfl)
   go_enter Tryz.func333,Tryz.ntmps333
   go_wp2
   go_end0
   exact dG (hK.ay) rfl (by rw[HR.out];rfl) (by rw[HR.out]) (by rw[HR.out]) (by rw[HR.out])
  ·have HR:=Lib.hid (show dF r c= { r with status:=400 } by rw[dF,if_neg (by omega),if_pos hp,hl];simp[hc])
   have hc2:=Jb hc (n:=13) rfl;go_enter Tryz.func333,Tryz.ntmps333
   go_wp2
   go_end0
   exact dG (hK.ay) rfl (by rw[HR.out];rfl) (by rw[HR.out]) (by rw[HR.out]) (by rw[HR.out])
def tJ (r:CS) (n:Nat):CS:=if r.place=0/\ 64<n then { r with status:=400 } else if r.place=3/\ (256<n\/ 512<r.ends+n)then { r with status:=431 } else r
theorem AZ (g:Nat) (vl vb vt:Value) (r:CS) (n:Nat) (w:World) (h:KA w g vl vb vt r) (hn:n<= 100000) (he:r.ends<= 1000):
 Calls Tryz.prog 371 #[.pointer (some ⟨g,0,none⟩),.int .i64 (n:Int)] w (nN w g vl vb vt (tJ r n)):=by
 obtain⟨j0,j1,j2,j3,j4,j5,j6,j7,i0,i1,i2,i3,i4,i5,i6,i7⟩:=Blk.c8 h.blk;have hK:=KW.refl h;by_cases hp:r.place=0
 ·rw[hp]at j0
  by_cases h1:64<n
  ·have HR:=Lib.hid (show tJ r n= { r with status:=400 } by rw[tJ,if_pos ⟨hp,h1⟩])
   go_enter Tryz.func371,Tryz.ntmps371
   go_wp2
   go_end0
   exact dG hK.ay rfl (by rw[HR.out];rfl) (by rw[HR.out]) (by rw[HR.out]) (by rw[HR.out])
  ·have HR:=Lib.hid (show tJ r n=r by rw[tJ,if_neg (fun h=>h1 h.2),if_neg (fun h=>by omega)])
   have h1:n<= 64:=by omega
   go_enter Tryz.func371,Tryz.ntmps371
   go_wp2
   go_end0
   exact dG hK rfl (by rw[HR.out]) (by rw[HR.out]) (by rw[HR.out]) (by rw[HR.out])
 ·have hp0:((r.place:Int)==0)=false:=by simpa using hp
  by_cases hp3:r.place=3
  ·rw[hp3]at j0
   by_cases h1:256<n
   ·have HR:=Lib.hid (show tJ r n= { r with status:=431 } by rw[tJ,if_neg (fun h=>hp h.1),if_pos ⟨hp3,.inl h1⟩])
    go_enter Tryz.func371,Tryz.ntmps371
    go_wp2
    go_end0
    exact dG hK.ay rfl (by rw[HR.out];rfl) (by rw[HR.out]) (by rw[HR.out]) (by rw[HR.out])
   ·by_cases h2:512<r.ends+n
    ·have HR:=Lib.hid (show tJ r n= { r with status:=431 } by rw[tJ,if_neg (fun h=>hp h.1),if_pos ⟨hp3,.inr h2⟩])
     have h1:n<= 256:=by omega
     go_enter Tryz.func371,Tryz.ntmps371
     go_wp2
     go_end0
     exact dG hK.ay rfl (by rw[HR.out];rfl) (by rw[HR.out]) (by rw[HR.out]) (by rw[HR.out])
    ·have HR:=Lib.hid (show tJ r n=r by rw[tJ,if_neg (fun h=>hp h.1),if_neg (fun h=>by omega)])
     have h1:n<= 256:=by omega
     have h2:r.ends+n<= 512:=by omega
     go_enter Tryz.func371,Tryz.ntmps371
     go_wp2
     go_end0
     exact dG hK rfl (by rw[HR.out]) (by rw[HR.out]) (by rw[HR.out]) (by rw[HR.out])
  ·have HR:=Lib.hid (show tJ r n=r by rw[tJ,if_neg (fun h=>hp h.1),if_neg (fun h=>by omega)])
   have hp1:((r.place:Int)==3)=false:=by simp;omega
   go_enter Tryz.func371,Tryz.ntmps371
   go_wp2
   go_end0
   exact dG hK rfl (by rw[HR.out]) (by rw[HR.out]) (by rw[HR.out]) (by rw[HR.out])
end Go.Proofs.YtdmondfpepbniaaGreatDoor
