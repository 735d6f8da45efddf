/- Part 5 of the proof: FPl. -/
import Derived.Deep.RegionLaw
import Derived.Deep.RegionWith
import Derived.Laws.StructEq
import Derived.BigRegion
import Derived.ChangeAlike
import Derived.Test.YtdmondfpepbniaaGreatDoorQ03
import Derived.Test.YtdmondfpepbniaaGreatDoorQ04
namespace Go.Proofs.YtdmondfpepbniaaGreatDoor
open Go.RowKit
set_option maxRecDepth 100000
set_option maxHeartbeats 4000000
set_option linter.all false
def tkL (l:Bs):Bool:=allT l&&decide (0<l.length)
def isF (f:Fd):Bool:=tkL f.1&& (wZ f.2&&decide (bf f.2=f.2))
def lG (acc:List Fd):List Fd-> Nat-> List Fd×Nat×Int
 | [],i=>(acc,i,0)
 |f::l,i=>if isF f then(if 24<= acc.length then(acc,i,3)else lG (acc++ [f]) l (i+1))else(acc,i,8)
theorem TI (acc:List Fd) (i:Nat):lG acc [] i=(acc,i,0):=rfl
theorem IB (acc:List Fd) (f:Fd) (l:List Fd) (i:Nat) (h:isF f=false):lG acc (f::l) i=(acc,i,8):=by rw[lG,h];rfl
theorem xI (acc:List Fd) (f:Fd) (l:List Fd) (i:Nat) (h:isF f=true) (h2:24<= acc.length):lG acc (f::l) i=(acc,i,3):=by rw[lG,h,if_pos rfl,if_pos h2]
theorem zZ (acc:List Fd) (f:Fd) (l:List Fd) (i:Nat) (h:isF f=true) (h2:acc.length<24):lG acc (f::l) i=lG (acc++ [f]) l (i+1):=by rw[lG,h,if_pos rfl,if_neg (by omega)]
def Df (a b:Bs):Bool:=dY a==dY b
def aO (n:Bs) (l:List Fd):List Bs:=(l.filter fun f=>Df f.1 n).map (·.2)
theorem Po (n:Bs) (f:Fd) (l:List Fd) (h:Df f.1 n=true):aO n (f::l)=f.2::aO n l:=by simp[aO,h]
theorem TJ (n:Bs) (f:Fd) (l:List Fd) (h:Df f.1 n=false):aO n (f::l)=aO n l:=by simp[aO,h]
theorem Pq (n:Bs) (a b:List Fd):aO n (a++b)=aO n a++aO n b:=by simp[aO]
theorem mX (n:Bs) (l:List Fd):(aO n l).length<= l.length:=by simp only[aO,List.length_map];exact List.length_filter_le _ _
theorem DT (n:Bs) (l:List Fd): ∀v∈aO n l,∃f∈l,f.2=v:=by
 intro v hv;simp only[aO,List.mem_map,List.mem_filter]at hv;obtain⟨f,⟨h1,-⟩,h2⟩:=hv;exact⟨f,h1,h2⟩
def tokF (st:Option (List Bs)) (s:Bs):Option (List Bs):=
 st.bind fun l=>if bf s= []then some l else if tkL (bf s)then some (l++ [dY (bf s)])else none
theorem xJ (l:List Bs):l.foldl tokF none=none:=by
 induction l with
 |nil=>rfl
 |cons a l ih=>exact ih
theorem DU (l:List Bs) (s:Bs) (h:bf s= []):tokF (some l) s=some l:=by simp[tokF,h]
theorem IC (l:List Bs) (s:Bs) (h:bf s≠[]) (h2:tkL (bf s)=true):tokF (some l) s=some (l++ [dY (bf s)]):=by simp[tokF,h,h2]
theorem IE (l:List Bs) (s:Bs) (h:bf s≠[]) (h2:tkL (bf s)=false):tokF (some l) s=none:=by simp[tokF,h,h2]
def mY (vs:List Bs):Option (List Bs):=(vs.flatMap (aS 44)).foldl tokF (some [])
def yF (st:Option (List Bs)) (vs:List Bs):Option (List Bs):=(vs.flatMap (aS 44)).foldl tokF st
theorem KQ (st:Option (List Bs)) (v:Bs) (vs:List Bs):yF st (v::vs)=yF ((aS 44 v).foldl tokF st) vs:=by
 simp[yF,List.foldl_append]
theorem KT (vs:List Bs):yF none vs=none:=xJ _
def kT:List Bs-> Bs
 | []=> []
 | [a]=>a
 |a::b::r=>a++([44,32]++kT (b::r))
structure How where
 kind:Int
 len:Int
 close:Bool
 expect:Bool
deriving DecidableEq
def eU:How:=⟨0,0,false,false⟩
abbrev IG (h:How):Value:=.agg #[.int .i64 h.kind,.int .i64 h.len,.bool h.close,.bool h.expect]
def FT (r:How×Int):Value:=.tuple #[IG r.1,.int .i64 r.2]
def mZ:Bs:= [72,111,115,116]
def teN:Bs:= [84,114,97,110,115,102,101,114,45,69,110,99,111,100,105,110,103]
def clN:Bs:= [67,111,110,116,101,110,116,45,76,101,110,103,116,104]
def coN:Bs:= [67,111,110,110,101,99,116,105,111,110]
def exN:Bs:= [69,120,112,101,99,116]
def bP:Bs:= [99,104,117,110,107,101,100]
def mD:Bs:= [99,108,111,115,101]
def uf:Bs:= [107,101,101,112,45,97,108,105,118,101]
def vN:Bs:= [49,48,48,45,99,111,110,116,105,110,117,101]
def qE (first:Bool):List Bs-> Bool
 | []=> !first
 | [h]=>decide (h= [])||tN h
 |_=>false
def xK (t:List Bs):Int:=
 if t.getLast? = some bP then(if bP∈t.dropLast then 400 else if t.length=1 then 0 else 501)else 400
def ZT (first:Bool) (te cl:List Bs):Int:=
 if first&&cl.isEmpty then(match mY te with|none=>400|some t=>xK t)else 400
def jk:List Bs-> Option Int
 | []=>none
 |s::r=>(dA 10 15 s).bind fun n=>if r.all (fun x=>decide (dA 10 15 x=some n))then some n else none
def pR (t:List Bs):Int×Int:=
 match jk t with
 |none=>(0,400)
 |some n=>if n<= 2048 then(n,0)else(0,413)
def KU (cl:List Bs):Int×Int:=
 match mY cl with
 |none=>(0,400)
 |some t=>pR t
def lU (first:Bool) (te cl:List Bs):Int×Int×Int:=
 if te= []then(if cl= []then(0,0,0)else(1,(KU cl).1,(KU cl).2))else(2,0,ZT first te cl)
def ng (first:Bool) (kind len:Int) (l:List Fd):How×Int:=
 match mY (aO coN l)with
 |none=>(eU,400)
 |some t=>
  let close:=t.contains mD|| (!first&& !t.contains uf)
  if first&& !(aO exN l).isEmpty then
   (if dY (kT (aO exN l))=vN then(⟨kind,len,close,decide (kind=2)||decide (0<len)⟩,0)else(eU,417))
  else(⟨kind,len,close,false⟩,0)
def yV (first:Bool) (l:List Fd):How×Int:=
 if qE first (aO mZ l)then
  (let b:=lU first (aO teN l) (aO clN l)
   if b.2.2=0 then ng first b.1 b.2.1 l else(eU,b.2.2))
 else(eU,400)
def ni:Bs-> Option Nat
 | []=>none
 |c::r=>if c=34 then some 1 else if c=92 then(match r with| []=>none|d::r'=>if iC d.toNat then(ni r').map (· +2)else none)else if iC c.toNat then(ni r).map (· +1)else none
def kU:Bs-> Nat
 | []=>0
 |c::r=>if c=34 then((ni r).map (· +1)).getD 0 else 0
def kW (s:Bs):Nat:=(s.takeWhile fun b=>zH b.toNat).length
def xM (s:Bs):Option Bs:=
 match s with
 | []=>some []
 |c::r=>if c=61 then(if kU r=0 then(if kW r=0 then none else some (r.drop (kW r)))else some (r.drop (kU r)))else some (c::r)
def pU (s:Bs):Option Bs:=
 match s with
 | []=>none
 |c::r=>if c=59 then(if kW (trimF r)=0 then none else xM ((trimF r).drop (kW (trimF r))))else none
def Aa:Nat-> Bs-> Nat-> Bool
 |0,_,_=>false
 |f+1,s,n=>if trimF s= []then true else match pU (trimF s)with|none=>false|some r=>if n=16 then false else Aa f r (n+1)
def yG (s:Bs):Bool:=Aa (s.length+1) s 0
theorem FU: ∀(s:Bs) (n:Nat),ni s=some n-> 1<= n/\ n<= s.length
 | [],n,h=>by simp[ni]at h
 |c::r,n,h=>by
  rw[ni.eq_def]at h;simp only at h;split at h
  ·injection h with h;simp;omega
  ·split at h
   ·split at h
    ·cases h
    ·rename_i d r'
     split at h
     ·rw[Option.map_eq_some_iff]at h
      obtain⟨m,hm,rfl⟩:=h;have:=FU r' m hm;simp;omega
     ·cases h
   ·split at h
    ·rw[Option.map_eq_some_iff]at h
     obtain⟨m,hm,rfl⟩:=h;have:=FU r m hm;simp;omega
    ·cases h
theorem XR (s:Bs):kU s<= s.length:=by
 cases s with
 |nil=>simp[kU]
 |cons c r=>
  rw[kU];split
  ·cases h:ni r with
   |none=>simp
   |some m=>have:=FU r m h;simp;omega
  ·simp
theorem FV (s:Bs):kW s<= s.length:=by
 unfold kW;exact(List.takeWhile_sublist _).length_le
theorem ny (s:Bs):(trimF s).length<= s.length:=(List.dropWhile_sublist _).length_le
theorem XT (s r:Bs) (h:xM s=some r):r.length<= s.length:=by
 cases s with
 |nil=>simp[xM]at h;simp[h]
 |cons c t=>
  rw[xM]at h;split at h
  ·split at h
   ·split at h
    ·cases h
    ·injection h with h;subst h;simp;omega
   ·injection h with h;subst h;simp;omega
  ·injection h with h;subst h;simp
theorem FW (s r:Bs) (h:pU s=some r):r.length<s.length:=by
 cases s with
 |nil=>simp[pU]at h
 |cons c t=>
  rw[pU]at h;split at h
  ·split at h
   ·cases h
   ·have h1:=XT _ _ h
    have h2:=ny t;rw[List.length_drop]at h1;simp;omega
  ·cases h
theorem DV: ∀(f g:Nat) (s:Bs) (n:Nat),s.length<f-> s.length<g-> Aa f s n=Aa g s n
 |0,_,_,_,h,_=>by omega
 |_+1,0,_,_,_,h=>by omega
 |f+1,g+1,s,n,h1,h2=>by
  rw[Aa,Aa];split
  ·rfl
  ·cases hp:pU (trimF s)with
   |none=>rfl
   |some r=>
    have h3:=FW _ _ hp;have h4:=ny s;simp only;rw[DV f g r (n+1) (by omega) (by omega)]
def xO (s:Bs) (n:Nat):Bool:=Aa (s.length+1) s n
theorem TK (s:Bs) (n:Nat) (h:trimF s= []):xO s n=true:=by rw[xO,Aa,if_pos h]
theorem Ae (s:Bs) (n:Nat) (h:trimF s≠[]) (h2:pU (trimF s)=none):xO s n=false:=by rw[xO,Aa,if_neg h,h2]
theorem Pv (s r:Bs) (h:trimF s≠[]) (h2:pU (trimF s)=some r):xO s 16=false:=by rw[xO,Aa,if_neg h,h2];rfl
theorem TM (s r:Bs) (n:Nat) (h:trimF s≠[]) (h2:pU (trimF s)=some r) (hn:n≠16):xO s n=xO r (n+1):=by
 have h3:=FW _ _ h2;have h4:=ny s;rw[xO,Aa,if_neg h,h2];simp only;rw[if_neg hn,xO];exact DV _ _ r (n+1) (by omega) (by omega)
theorem TN (s:Bs) (n:Nat) (h:trimF s≠[]) (hn:n=16):xO s n=false:=by
 subst hn;cases h2:pU (trimF s)with
 |none=>exact Ae s 16 h h2
 |some r=>exact Pv s r h h2
def hexN (s:Bs):Nat:=(s.takeWhile fun b=>decide (0<= bD b.toNat)).length
def nC (s:Bs):Option Int:=if hexN s<1\/ 6<hexN s then none else if yG (s.drop (hexN s))then dA 16 12 (s.take (hexN s))else none
def eX (s:Bs):Option Fd:=
 if 256<s.length then none
 else if(58:UInt8)∈s then(let f:Fd:=(s.takeWhile (· != 58),bf (s.dropWhile (· != 58)).tail);if isF f then some f else none)else none
structure CS where
 place:Nat
 line:Bs
 left:Nat
 body:Bs
 trs:List Fd
 ends:Nat
 whole:Bool
 status:Int
deriving DecidableEq
def cs0:CS:=⟨0,[],0,[],[],0,false,0⟩
def nD (r:CS) (s:Bs):CS:=
 match nC s with
 |none=> { r with status:=400 }
 |some v=>if 2048- (r.body.length:Int)<v then { r with status:=413 } else if v=0 then { r with place:=3 } else { r with place:=1,left:=v.toNat }
def gI (r:CS) (s:Bs):CS:=
 match eX s with
 |none=> { r with ends:=r.ends+s.length+2,status:=400 }
 |some f=>if 512<r.ends+s.length+2\/ r.trs.length=8 then { r with ends:=r.ends+s.length+2,status:=431 } else { r with ends:=r.ends+s.length+2,trs:=r.trs++ [f] }
def kH (r:CS) (c:UInt8):CS:=
 if c=10 then
  (if r.line.getLast? = some 13 then
    (let s:=r.line.dropLast
     if r.place=0 then nD { r with line:= [] } s
     else if s= []then { r with line:= [],whole:=true }
     else gI { r with line:= [] } s)
   else { r with status:=400 })
 else
  (let l:=r.line++ [c]
   let k:=if c=13 then r.line.length else r.line.length+1
   if r.place=0/\ 64<k then { r with line:=l,status:=400 }
   else if r.place=3/\ (256<k\/ 512<r.ends+k)then { r with line:=l,status:=431 }
   else { r with line:=l })
def dF (r:CS) (c:UInt8):CS:=
 if r.place=1 then(if r.left=1 then { r with body:=r.body++ [c],place:=2,left:=2 } else { r with body:=r.body++ [c],left:=r.left-1 })
 else if r.place=2 then
  (if c=(if r.left=2 then 13 else 10)then(if r.left=1 then { r with place:=0,left:=0 } else { r with left:=1 })else { r with status:=400 })
 else kH r c
def dU:CS-> Bs-> Nat×CS
 |r,[]=>(0,r)
 |r,c::p=>if r.whole=true\/ r.status≠0 then(0,r)else((dU (dF r c) p).1+1,(dU (dF r c) p).2)
theorem Ah {P:Program} {f:FuncId} {args:Array Value} {w:World} {n:Nat} {v:Value}
 (h:Calls P f args (w.drewN n) fun e w'=>e= .returned v/\ w.drewN n=w'):Calls P f args (w.drewN n) fun e w''=>e= .returned v/\ ∃m,w''=w.drewN m:=
 h.mono fun _ _ ⟨he,hm⟩=>⟨he,n,hm.symm⟩
def OF (w:World) (base:Nat) (v:Value) (l:List Fd):Prop:=Own w base 86 2 v l.length (aQ l)
theorem OF.nil (w:World) (base:Nat):OF w base (.slice none 0 0) []:=Own.nil w base _ 2
theorem OF.ah {w w':World} {base:Nat} {v:Value} {l:List Fd} (h:OF w base v l) (hb:Below w.heap.size w w'):OF w' base v l:=Own.ah h hb
theorem OF.form {w:World} {base:Nat} {v:Value} {l:List Fd} (h:OF w base v l): ∃A c,v= .slice A l.length c/\ l.length<= c/\ c<= maxLen/\ Rd w w.heap.size 2 A l.length (aQ l):=by
 obtain⟨A,c,h1,h2,h3,h4,_⟩:=Own.rd h;exact⟨A,c,h1,h2,h3,h4⟩
theorem rF {ops:Array Oper} {o:Oper} {a:Act} {w0 w:World} {K:Act-> World-> Prop} {Q:Exit-> Act-> World-> Prop} {E:Prop} (hgd:o.guard=none) (s x:Operand)
 (ho:o.op= .call { callee:=.builtin .append,args:=#[s,x],argTypes:=#[52,52] })
 (base:Nat) (v:Value) (l:List Fd) (hs:a.eval s=v) (hown:OF w0 base v l) (hw:Below w0.heap.size w0 w) (A:Option Addr) (n c B:Nat) (hx:a.eval x= .slice A n c) (m:List Fd) (hm:m.length=n) (hr:Rd w B 2 A n (aQ m))
 (hlen:l.length+m.length<= 1000000) (hbase:base<= w0.heap.size)
 (hK: ∀v' w',OF w' base v' (l++m)-> Ext w0 w' v v'-> K (a.put o.dst v') w'):
 if Region.wanted o (yielded ops a.tmps)=true then Oper.wp Tryz.prog o a w K Q else E:=by
 have hwt:Region.wanted o (yielded ops a.tmps)=true:=by simp[Region.wanted,hgd]
 rw[if_pos hwt];subst hm;obtain⟨i0,hi,hz0,hz1,hz2⟩:=info_parts vJ;obtain⟨v',w',hrun,h2,h3,h4⟩:=gy (P:=Tryz.prog) w base 52 52 o.type 86 i0 _ 2 32 Tryz.underlying52 (.inl Tryz.underlying52) hi hz0 hz1 hz2 rfl (by decide) v l.length _ (hown.ah hw) (.slice A m.length c) m.length _ (Src.fB hr (jC m)) (by unfold maxLen;omega) (by omega) (Nat.le_trans hbase hw.size)
 rw[<- oG]at h2;have key:=hK v' w' (by unfold OF;rw[List.length_append];exact h2) (oH hw h3 h4)
 unfold Oper.wp;simp[execOp,ho,resolve,invoke,builtin,hs,hx,hrun,Result.andThen];exact key
theorem XU {ops:Array Oper} {rest:List Oper} {o:Oper} {a:Act} {Q:Exit-> Act-> World-> Prop} {w0 w:World} (hgd:o.guard=none) (s x:Operand)
 (ho:o.op= .call { callee:=.builtin .append,args:=#[s,x],argTypes:=#[52,52] })
 (base:Nat) (v:Value) (l:List Fd) (hs:a.eval s=v) (hown:OF w0 base v l) (hw:Below w0.heap.size w0 w) (A:Option Addr) (n c B:Nat) (hx:a.eval x= .slice A n c) (m:List Fd) (hm:m.length=n) (hr:Rd w B 2 A n (aQ m))
 (hlen:l.length+m.length<= 1000000) (hbase:base<= w0.heap.size)
 (h: ∀v' w',OF w' base v' (l++m)-> Ext w0 w' v v'-> wpList Tryz.prog ops Q rest (a.put o.dst v') w'):wpList Tryz.prog ops Q (o::rest) a w:=by
 obtain⟨i0,hi,hz0,hz1,hz2⟩:=info_parts vJ;subst hm;refine aJ w hgd s x 52 52 ho base 86 i0 _ 2 32 Tryz.underlying52 (.inl Tryz.underlying52) hi hz0 hz1 hz2 rfl (by decide) v l.length _ hs (hown.ah hw) _ m.length _ hx (Src.fB hr (jC m)) (by unfold maxLen;omega) (by omega) (Nat.le_trans hbase hw.size) ?_
 intro v' w' ho' hg ha;refine h v' w' ?_ (oH hw hg ha);rw[<- oG]at ho';unfold OF;rw[List.length_append];exact ho'
structure FA (w:World) (T:TypeId) (g base:Nat) (v:Value) (l:List Fd):Prop where
 blk:Blk w g T #[v]
 own:OF w base v l
 lo:base<= g
 ne:v.ownBlock≠some g
theorem FA.fr {w w':World} {T:TypeId} {g base:Nat} {v:Value} {l:List Fd} {S:Nat-> Prop} (h:FA w T g base v l) (hf:Fr S w w') (h1: ¬S g) (h2: ∀k,v.ownBlock=some k-> ¬S k):FA w' T g base v l:=
 ⟨h.blk.fr hf h1,Own.fr h.own hf h2,h.lo,h.ne⟩
theorem FA.ah {w w':World} {T:TypeId} {g base:Nat} {v:Value} {l:List Fd} (h:FA w T g base v l) (hb:Below w.heap.size w w'):FA w' T g base v l:=
 ⟨h.blk.ah hb,h.own.ah hb,h.lo,h.ne⟩
theorem FA.alloc {w:World} {T:TypeId} {g base:Nat} {v:Value} {l:List Fd} (h:FA w T g base v l) (o:Obj):FA (w.alloc o) T g base v l:=
 ⟨h.blk.alloc o,Own.alloc h.own o,h.lo,h.ne⟩
def FS (g:Nat) (v:Value):Nat-> Prop:=fun k=>k=g\/ v.ownBlock=some k
theorem FA.app {w1 w3:World} {T:TypeId} {g base:Nat} {v v':Value} {l l':List Fd} (h:FA w1 T g base v l) (hx:Ext w1 w3 v v') (ho:OF w3 base v' l'):FA (w3.setCell ⟨g,0,none⟩ v') T g base v' l':=by
 have hne: ∀k,v'.ownBlock=some k-> k≠g:=by
  intro k hk hg;subst hg;rcases hx.own k hk with h1|h1
  ·exact h.ne h1
  ·have:=h.blk.lt;omega
 exact⟨(h.blk.fr hx.fr h.ne).ay 0 v',Own.far ho (p:=⟨g,0,none⟩) hne v',h.lo,fun e=>hne g e rfl⟩
theorem FA.TP {w1 w3:World} {g:Nat} {v v':Value} (hx:Ext w1 w3 v v') (u:Value):Fr (FS g v) w1 (w3.setCell ⟨g,0,none⟩ u):=
 (hx.fr.mono fun _ hi=>.inl (.inr hi)).setCell (.inl (.inl rfl)) u
theorem FS.trans {w w1 w3:World} {g:Nat} {v v1:Value} (h:Fr (FS g v) w w1) (k:Fr (FS g v1) w1 w3) (hv: ∀j,v1.ownBlock=some j-> v.ownBlock=some j\/ w.heap.size<= j):Fr (FS g v) w w3:=
 h.trans k fun i hi=>by
  rcases hi with h1|h1
  ·exact .inl (.inl h1)
  ·rcases hv i h1 with h2|h2
   ·exact .inl (.inr h2)
   ·exact .inr h2
theorem FS.own {w w1:World} {v v1 v2:Value} (hv: ∀j,v1.ownBlock=some j-> v.ownBlock=some j\/ w.heap.size<= j) (hs:w.heap.size<= w1.heap.size) (hx: ∀j,v2.ownBlock=some j-> v1.ownBlock=some j\/ w1.heap.size<= j): ∀j,v2.ownBlock=some j-> v.ownBlock=some j\/ w.heap.size<= j:=by
 intro j hj;rcases hx j hj with h|h
 ·exact hv j h
 ·exact .inr (Nat.le_trans hs h)
theorem Fr.ah {S:Nat-> Prop} {w0 w w':World} (h:Fr S w0 w) (hb:Below w.heap.size w w'):Fr S w0 w':=
 h.trans (Fr.dB hb) fun _ hi=>.inr (Nat.le_trans h.size hi)
theorem Rd.frm {S:Nat-> Prop} {w w':World} {B size n:Nat} {A:Option Addr} {xs:List Value} (h:Rd w B size A n xs) (hB:B<= w.heap.size) (hf:Fr S w w') (hs:0<n-> ∀a,A=some a-> ¬S a.block):Rd w' B size A n xs:=by
 refine⟨h.1,fun hn=> ?_⟩
 obtain⟨b,o,e,hb,hc⟩:=h.2 hn;exact⟨b,o,e,hb,fun j u hu=>(hf.cell (p:=⟨b,o+j,none⟩) (by show b<_;omega) (hs hn ⟨b,o,none⟩ e)).trans (hc j u hu)⟩
theorem Rd.off {S:Nat-> Prop} {w:World} {B size n:Nat} {A:Option Addr} {xs:List Value} (h:Rd w B size A n xs) (hS: ∀i,S i-> B<= i):0<n-> ∀a,A=some a-> ¬S a.block:=by
 intro hn a ha hs;obtain⟨b,o,e,hb,-⟩:=h.2 hn;rw[e]at ha;injection ha with ha
 subst ha;have:=hS _ hs;simp at this;omega
theorem Rd.fd {w:World} {B n:Nat} {A:Option Addr} {l:List Fd} (h:Rd w B 2 A n (aQ l)) (hn:l.length=n) (k:Nat) (f:Fd) (hf:l[k]? = some f):
 ∃b o,A=some ⟨b,o,none⟩/\ b<B/\ w.cell? ⟨b,o+k*2,none⟩=some (sv f.1)/\ w.cell? ⟨b,o+k*2+1,none⟩=some (sv f.2):=by
 have hk:k<l.length:=(List.getElem?_eq_some_iff.1 hf).1;obtain⟨b,o,e,hb,hc⟩:=h.2 (by omega)
 have key: ∀(l:List Fd) (k:Nat) (f:Fd),l[k]? = some f->(aQ l)[k*2]? = some (sv f.1)/\ (aQ l)[k*2+1]? = some (sv f.2):=by
  intro l
  induction l with
  |nil=>intro k f h;simp at h
  |cons g l ih=>
   intro k f h;cases k with
   |zero=>simp at h;subst h;simp[aQ]
   |succ k=>
    have:=ih k f (by simpa using h)
    rw[show(k+1)*2=k*2+2 by omega]
    simpa [aQ] using this
 obtain⟨h1,h2⟩:=key l k f hf;exact⟨b,o,e,hb,hc _ _ h1,by have:=hc _ _ h2;rwa [<- Nat.add_assoc]at this⟩
def Cel (w:World) (g:Nat) (u:Value):Prop:= ∃T cs,Blk w g T cs/\ cs[0]? = some u
theorem Cel.of {w:World} {g:Nat} {T:TypeId} {cs:Array Value} {u:Value} (h:Blk w g T cs) (hc:cs[0]? = some u):Cel w g u:=⟨T,cs,h,hc⟩
theorem Cel.c1 {w:World} {g:Nat} {u:Value} (h:Cel w g u):w.cell? ⟨g,0,none⟩=some u/\ w.frozen? ⟨g,0,none⟩=false:=by
 obtain⟨T,cs,h,hc⟩:=h;exact⟨(h.cell 0).trans hc,h.frozen 0⟩
theorem Cel.ah {w w':World} {g:Nat} {u:Value} (h:Cel w g u) (hb:Below w.heap.size w w'):Cel w' g u:=by
 obtain⟨T,cs,h,hc⟩:=h;exact⟨T,cs,h.ah hb,hc⟩
theorem Cel.drewN {w:World} {g:Nat} {u:Value} (h:Cel w g u) (n:Nat):Cel (w.drewN n) g u:=h
theorem Cel.alloc {w:World} {g:Nat} {u:Value} (h:Cel w g u) (o:Obj):Cel (w.alloc o) g u:=by
 obtain⟨T,cs,h,hc⟩:=h;exact⟨T,cs,h.alloc o,hc⟩
def FR (w:World) (_:TypeId) (g:Nat) (l:List Fd):Prop:= ∃A c,Cel w g (.slice A l.length c)/\ l.length<= c/\ Rd w w.heap.size 2 A l.length (aQ l)
theorem FA.rd {w:World} {T:TypeId} {g base:Nat} {v:Value} {l:List Fd} (h:FA w T g base v l):FR w T g l:=by
 obtain⟨A,c,e,h1,-,h3⟩:=h.own.form;exact⟨A,c,Cel.of h.blk (by rw[e];rfl),h1,h3⟩
theorem FR.ah {w w':World} {T:TypeId} {g:Nat} {l:List Fd} (h:FR w T g l) (hb:Below w.heap.size w w'):FR w' T g l:=by
 obtain⟨A,c,h1,h2,h3⟩:=h;exact⟨A,c,h1.ah hb,h2,(h3.ah (Nat.le_refl _) hb).more hb.size⟩
def zi (w:World) (vs:List Bs) (e:Ending) (w':World):Prop:=
 (∃A c,e= .returned (.slice A vs.length c)/\ vs.length<= c/\ c<= maxLen/\ Rd w' w'.heap.size 1 A vs.length (vs.map tv))/\ Below w.heap.size w w'
theorem NW {w wr:World} {base:Nat} {v:Value} {l:List Bs} {vs:List Bs} (ho:OS wr base v l) (e:l=vs) (L:Below w.heap.size w wr):zi w vs (.returned v) wr:=by
 subst e;obtain⟨A,c,hv,h1,h2,h3⟩:=ho.form;exact⟨⟨A,c,by rw[hv],h1,h2,h3⟩,L⟩
theorem Rd.tx {w:World} {B n:Nat} {A:Option Addr} {l:List Bs} (h:Rd w B 1 A n (l.map tv)) (k:Nat) (s:Bs) (hs:l[k]? = some s):
 ∃b o,A=some ⟨b,o,none⟩/\ b<B/\ w.cell? ⟨b,o+k,none⟩=some (sv s):=by
 have hk:k<l.length:=(List.getElem?_eq_some_iff.1 hs).1;have hn:l.length=n:=by simpa using h.1
 obtain⟨b,o,e,hb,hc⟩:=h.2 (by omega)
 exact⟨b,o,e,hb,hc k _ (by rw[List.getElem?_map,hs];rfl)⟩
theorem iQ {n:Nat} (h:n<= 1000000):n<= maxLen:=by unfold maxLen;omega
theorem DW (f:Fd) (w:World) (h1:f.1.length<= 1000000) (h2:f.2.length<= 1000000):
 Calls Tryz.prog 282 #[.agg #[sv f.1,sv f.2]] w fun e w'=>e= .returned (.bool (isF f))/\ Below w.heap.size w w':=by
 have e1:(⟨f.1.toArray⟩:ByteArray).data.toList=f.1:=rfl;have e2:(⟨f.2.toArray⟩:ByteArray).data.toList=f.2:=rfl;have hT:=fun w=>gG ⟨f.1.toArray⟩ w (iQ h1)
 have hV:=fun w=>lM ⟨f.2.toArray⟩ w (iQ h2)
 have hM:=fun w=>qh ⟨f.2.toArray⟩ w (iQ h2)
 rw[e1,show(allT f.1&&decide (0<f.1.length))=tkL f.1 from rfl]at hT
 rw[e2]at hV hM;have LW:Below w.heap.size w (w.alloc (.cells #[sv f.1,sv f.2] 86)):=aj (Below.refl _ _) _;have B1:Blk (w.alloc (.cells #[sv f.1,sv f.2] 86)) w.heap.size 86 #[sv f.1,sv f.2]:=Blk.new' _ _ rfl _ _;cases t1:tkL f.1
 ·have HR:=Lib.hid (show isF f=false by rw[isF,t1];rfl)
  rw[t1]at hT;go_enter Tryz.func282,Tryz.ntmps282
  go_wp2_with fail
  obtain⟨V,hV'⟩: ∃V,V=w.alloc (.cells #[sv f.1,sv f.2] 86):=⟨_,rfl⟩;rw[<- hV']at B1 LW⊢;obtain⟨j0,j1,i0,i1⟩:=B1.c2;clear hV';go_quiet ((go_at_call 176;exact Ah (hT _)))
  go_wp2
  go_ret
  exact⟨by rw[HR.out];rfl,below_drewN' LW _⟩
 ·rw[t1]at hT
  cases t2:wZ f.2
  ·have HR:=Lib.hid (show isF f=false by rw[isF,t1,t2];rfl)
   rw[t2]at hV;clear t1 t2;go_enter Tryz.func282,Tryz.ntmps282
   go_wp2_with fail
   obtain⟨V,hV'⟩: ∃V,V=w.alloc (.cells #[sv f.1,sv f.2] 86):=⟨_,rfl⟩;rw[<- hV']at B1 LW⊢;obtain⟨j0,j1,i0,i1⟩:=B1.c2;clear hV';go_quiet ((first| (go_at_call 176;exact Ah (hT _))| (go_at_call 171;exact Ah (hV _))))
   go_wp2
   go_ret
   exact⟨by rw[HR.out];rfl,below_drewN' LW _⟩
  ·have HR:=Lib.hid (show isF f=decide (bf f.2=f.2) by rw[isF,t1,t2];rfl)
   rw[t2]at hV;clear t1 t2;go_enter Tryz.func282,Tryz.ntmps282
   go_wp2_with fail
   obtain⟨V,hV'⟩: ∃V,V=w.alloc (.cells #[sv f.1,sv f.2] 86):=⟨_,rfl⟩;rw[<- hV']at B1 LW⊢;obtain⟨j0,j1,i0,i1⟩:=B1.c2;clear hV'
   go_region_with (first| (go_at_call 176;refine(hT _).mono ?_;rintro e w' ⟨rfl,rfl⟩)| (go_at_call 171;refine(hV _).mono ?_;rintro e w' ⟨rfl,rfl⟩)| (go_at_call 172;refine(hM _).mono ?_;rintro e w5 ⟨rfl,L5⟩;obtain⟨k0,k1,g0,g1⟩:=(Blk.ah B1.drew L5).c2;have L6:=stepW (below_drewN' LW 1) L5))
   all_goals
    go_wp2
    refine bodyPost_ret (v:=.bool (decide (bf f.2=f.2))) ?_ rfl ⟨by rw[HR.out],L6⟩
    simp[results,Tryz.results282,go_sem];rw[Bool.eq_iff_iff,beq_iff_eq,decide_eq_true_eq]
def oJ (l:List Fd):Prop:= ∀f∈l,f.1.length<= 1000000/\ f.2.length<= 1000000
theorem oJ.at {l:List Fd} (h:oJ l) {k:Nat} {f:Fd} (hf:l[k]? = some f):f.1.length<= 1000000/\ f.2.length<= 1000000:=h f (List.mem_of_getElem? hf)
theorem TQ {w:World} {B n:Nat} {A:Option Addr} {l:List Fd} (h:Rd w B 2 A n (aQ l)):l.length=n:=by
 have:=h.1;rw[oD]at this;omega
def TR (r:List Fd×Nat×Int):Value:=.tuple #[.int .i64 (r.2.1:Int),.int .i64 r.2.2]
def vO (T:TypeId) (w:World) (g base:Nat) (v:Value) (r:List Fd×Nat×Int) (e:Ending) (w':World):Prop:=
 e= .returned (TR r)/\ (∃v',FA w' T g base v' r.1/\ ∀k,v'.ownBlock=some k-> v.ownBlock=some k\/ w.heap.size<= k)/\ Fr (FS g v) w w'
theorem zk {l:List Fd} {k:Nat} (h:k<l.length): ∃f,l[k]? = some f/\ l.drop k=f::l.drop (k+1):=
 ⟨l[k],List.getElem?_eq_getElem h,List.drop_eq_getElem_cons h⟩
theorem FX (g base n c B:Nat) (A:Option Addr) (v:Value) (acc l:List Fd) (w:World) (hF:FA w 347 g base v acc) (hA:Rd w B 2 A n (aQ l)) (hB:B<= w.heap.size)
 (hne:0<n-> ∀a,A=some a-> ¬FS g v a.block) (hsz:oJ l) (hacc:acc.length<= 24) (hb:base<= w.heap.size) (hn:n<= 140737488355328):
 Calls Tryz.prog 244 #[.pointer (some ⟨g,0,none⟩),.slice A n c] w (vO 347 w g base v (lG acc l 0)):=by
 have hln:=TQ hA;go_enter Tryz.func244,Tryz.ntmps244
 go_wp2
 go_loopw [12] (fun i wr=> ∃(k:Nat) (vk:Value) (ak:List Fd),k<= n/\ i= .int .i64 k/\ FA wr 347 g base vk ak/\ ak.length<= 24/\ Hid (lG acc l 0=lG ak (l.drop k) k)/\ Fr (FS g v) w wr/\ (∀j,vk.ownBlock=some j-> v.ownBlock=some j\/ w.heap.size<= j)) (fun i _=>n- (intOf i).toNat)
 case atStart=>exact⟨0,v,acc,Nat.zero_le _,rfl,hF,hacc,rfl,Fr.refl _ _,fun j h=>.inl h⟩
 case round=>
  obtain⟨k,vk,ak,hk,rfl,hFk,hak,H,hfr,hown⟩:=hrel;by_cases hlt:k<n
  ·obtain⟨f,hf,hd⟩:=zk (by omega:k<l.length)
   obtain⟨s1,s2⟩:=hsz.at hf;have hAk:=hA.frm hB hfr hne;obtain⟨b,o,rfl,hbB,x0,x1⟩:=hAk.fd hln k f hf;obtain⟨Ak,ck,rfl,hc1,hc2,hc3⟩:=hFk.own.form;have hS:=hfr.size;have H2:=Lib.hid (show lG acc l 0=lG ak (f::l.drop (k+1)) k by rw[H.out,hd])
   have Hf:=Lib.hid hf;clear hf hd H;go_wp2_with fail
   obtain⟨V,hV⟩: ∃V,V=wr.alloc (.cells #[sv f.1,sv f.2] 86):=⟨_,rfl⟩;rw[<- hV];have LV:Below wr.heap.size wr V:=by rw[hV];exact aj (Below.refl _ _) _
   have BV:Blk V wr.heap.size 86 #[sv f.1,sv f.2]:=by rw[hV];exact Blk.new' _ _ rfl _ _
   clear hV;refine(DW f V s1 s2).mono ?_;rintro e w1 ⟨rfl,L1⟩;have LW:=stepW LV L1;have hF1:=hFk.ah LW;have hA1:=hAk.ah (by omega) LW
   obtain⟨y0,y1⟩:=hF1.blk.c1;obtain⟨z0,z1,z2,z3⟩:=(BV.ah L1).c2;have ZU:=hfr.ah LW;have hS1:=LW.size;clear x0 x1 BV LV L1 hc3 hFk hfr;cases hI:isF f
   ·have HR:=Lib.hid (H2.out.trans (IB _ _ _ _ hI))
    clear hI;go_wp2
    go_ret2
    exact⟨by rw[HR.out];rfl,by rw[HR.out];exact⟨_,hF1,hown⟩,ZU⟩
   ·by_cases h24:24<= ak.length
    ·have HR:=Lib.hid (H2.out.trans (xI _ _ _ _ hI h24))
     clear hI;go_wp2
     go_ret2
     exact⟨by rw[HR.out];rfl,by rw[HR.out];exact⟨_,hF1,hown⟩,ZU⟩
    ·have HR:=Lib.hid (H2.out.trans (zZ _ _ _ _ hI (by omega)))
     obtain⟨y2,y3⟩:=(hF1.blk.alloc (.cells #[sv f.1,sv f.2] 86)).c1;clear hI H2;go_wp2
     go_region_law (refine rF rfl (.tmp 34) (.tmp 36) rfl base (.slice Ak ak.length ck) ak rfl hF1.own (aj ((Below.refl _ _).drew) _) _ 1 1 (w1.heap.size+1) rfl [f] rfl (Rd.new w1.drew _ rfl [sv f.1,sv f.2] _ 1 2 rfl) (by simp;omega) (by omega) ?_;intro v' w3 ho3 hx3;obtain⟨A3,c3,hv3,hc31,hc32,TT⟩:=ho3.form;rw[show(ak++ [f]).length=ak.length+1 by simp]at hv3;subst hv3;have BB:=hF1.blk.fr hx3.fr hF1.ne;obtain⟨q0,q1⟩:=BB.c1)
     all_goals
      go_wp2
      go_roundw
      case rel=>exact⟨k+1,_,ak++ [f],by omega,by go_num,hF1.app hx3 ho3,by simp;omega,HR,FS.trans ZU (FA.TP hx3 _) hown,FS.own hown (by omega) hx3.own⟩
      case measure=>simp[intOf];omega
  ·have HR:=Lib.hid (H.out.trans (show lG ak (l.drop k) k=(ak,k,0) by rw[List.drop_of_length_le (by omega)];rfl))
   obtain rfl:k=n:=by omega
   go_wp2
   go_ret2
   exact⟨by rw[HR.out];rfl,by rw[HR.out];exact⟨_,hFk,hown⟩,hfr⟩
theorem TU (n c:Nat) (A:Option Addr) (l:List Fd) (w:World) (hA:Rd w w.heap.size 2 A n (aQ l)) (hsz:oJ l) (hn:n<= 140737488355328):
 Calls Tryz.prog 243 #[.slice A n c] w fun e w'=>(∃g v,e= .returned (.pointer (some ⟨g,0,none⟩))/\ FA w' 347 g w.heap.size v (lG [] l 0).1)/\ Below w.heap.size w w':=by
 go_enter Tryz.func243,Tryz.ntmps243
 go_wp2_with fail
 obtain⟨V,hV⟩: ∃V,V=w.alloc (.cells #[.slice none 0 0] 347):=⟨_,rfl⟩;rw[<- hV];have LV:Below w.heap.size w V:=by rw[hV];exact aj (Below.refl _ _) _
 have BV:Blk V w.heap.size 347 #[.slice none 0 0]:=by rw[hV];exact Blk.new' _ _ rfl _ _
 clear hV;have hF:FA V 347 w.heap.size w.heap.size (.slice none 0 0) []:=⟨BV,OF.nil _ _,Nat.le_refl _,by simp[Value.ownBlock]⟩
 have hA1:=hA.ah (Nat.le_refl _) LV;have hS: ∀i,FS w.heap.size (.slice none 0 0) i-> w.heap.size<= i:=by
  intro i hi;rcases hi with h|h
  ·omega
  ·simp[Value.ownBlock]at h
 refine(FX w.heap.size w.heap.size n c w.heap.size A (.slice none 0 0) [] l V hF hA1 LV.size (hA1.off hS) hsz (Nat.zero_le _) LV.size hn).mono ?_;rintro e w1 ⟨rfl,⟨v',hF1,hv'⟩,hfr⟩;have L1:Below w.heap.size w w1:=LV.trans (hfr.toBelow LV.size hS);unfold TR;go_wp2
 go_ret
 exact⟨⟨_,_,rfl,hF1⟩,L1⟩
theorem Px (n:Bs) (l:List Fd) (k:Nat) (f:Fd) (h:l[k]? = some f):aO n (l.take (k+1))=aO n (l.take k)++if Df f.1 n then [f.2]else []:=by
 rw[List.take_add_one,h,Option.toList_some,Pq];congr 1
 cases hn:Df f.1 n
 ·rw[TJ _ _ _ hn];rfl
 ·rw[Po _ _ _ hn];rfl
theorem uG (g:Nat) (l:List Fd) (name:ByteArray) (w:World) (hF:FR w 347 g l) (hl:l.length<= 1000000) (hsz:oJ l) (hnm:name.size<= maxLen):
 Calls Tryz.prog 317 #[.pointer (some ⟨g,0,none⟩),.string name] w (zi w (aO name.data.toList l)):=by
 obtain⟨A,c,hB,hc,hA⟩:=hF;obtain⟨j0,i0⟩:=hB.c1;go_enter Tryz.func317,Tryz.ntmps317
 go_wp2
 go_loopw [5,15] (fun v i wr=> ∃k:Nat,k<= l.length/\ i= .int .i64 k/\ OS wr w.heap.size v (aO name.data.toList (l.take k))/\ Below w.heap.size w wr) (fun _ i _=>l.length- (intOf i).toNat)
 case atStart=>exact⟨0,Nat.zero_le _,rfl,OS.nil _ _,Below.refl _ _⟩
 case round=>
  obtain⟨k,hk,rfl,ho,L⟩:=hrel;have hS:=L.size;by_cases hlt:k<l.length
  ·obtain⟨f,hf,hd⟩:=zk hlt
   obtain⟨s1,s2⟩:=hsz.at hf;have hA1:=hA.ah (Nat.le_refl _) L;obtain⟨b,o,rfl,hbB,x0,x1⟩:=hA1.fd rfl k f hf;have hV:=Px name.data.toList l k f hf;have hvl:(aO name.data.toList (l.take k)).length<= 1000000:=Nat.le_trans (mX _ _) (Nat.le_trans (List.length_take_le _ _) (by omega))
   have HV:=Lib.hid hV;clear hf hd hV;go_wp2_with fail
   obtain⟨V,hV⟩: ∃V,V=wr.alloc (.cells #[sv f.1,sv f.2] 86):=⟨_,rfl⟩;rw[<- hV];have LV:Below wr.heap.size wr V:=by rw[hV];exact aj (Below.refl _ _) _
   have BV:Blk V wr.heap.size 86 #[sv f.1,sv f.2]:=by rw[hV];exact Blk.new' _ _ rfl _ _
   clear hV;refine(pY ⟨f.1.toArray⟩ name V (iQ s1) hnm).mono ?_;rw[show(dY (⟨f.1.toArray⟩:ByteArray).data.toList==dY name.data.toList)=Df f.1 name.data.toList from rfl]
   rintro e w1 ⟨rfl,L1⟩;have LW:=stepW LV L1;obtain⟨z0,z1,z2,z3⟩:=(BV.ah L1).c2;have ho1:=ho.ah LW;have hS1:=LW.size;clear x0 x1 BV LV L1 ho;cases hN:Df f.1 name.data.toList
   ·have HR:=Lib.hid (show aO name.data.toList (l.take (k+1))=aO name.data.toList (l.take k) by rw[HV.out,hN];simp)
    clear hN HV;go_wp2
    go_roundw
    case rel=>exact⟨k+1,by omega,by go_num,by rw[HR.out];exact ho1,stepW L LW⟩
    case measure=>simp[intOf];omega
   ·have HR:=Lib.hid (show aO name.data.toList (l.take (k+1))=aO name.data.toList (l.take k)++ [f.2] by rw[HV.out,hN];rfl)
    clear hN HV;go_wp2_with (at_builtin;refine zQ rfl _ _ rfl w.heap.size _ _ rfl ho1 _ rfl ⟨f.2.toArray⟩ rfl (by omega) (by omega) ?_;intro v' w2 ho2 hx)
    go_roundw
    case rel=>exact⟨k+1,by omega,by go_num,by rw[HR.out];exact ho2,(stepW L LW).trans (hx.below ho1 (Nat.le_refl _) (by omega))⟩
    case measure=>simp[intOf];omega
  ·go_wp2
   go_ret
   exact NW ho (by rw[List.take_of_length_le (by omega)]) L
theorem kX (name:ByteArray) (w:World):
 Calls Tryz.prog 317 #[.pointer none,.string name] w (zi w []):=by
 go_enter Tryz.func317,Tryz.ntmps317
 go_wp2
 go_ret
 exact NW (OS.nil _ w.heap.size) rfl (Below.refl _ _)
theorem XV (g:Nat) (l:List Fd) (name:ByteArray) (w:World) (hF:FR w 347 g l) (hl:l.length<= 1000000) (hsz:oJ l) (hnm:name.size<= maxLen):
 Calls Tryz.prog 366 #[.pointer (some ⟨g,0,none⟩),.string name] w fun e w'=>e= .returned (.bool (!(aO name.data.toList l).isEmpty))/\ Below w.heap.size w w':=by
 go_enter Tryz.func366,Tryz.ntmps366
 go_wp2_with fail
 refine(uG g l name w hF hl hsz hnm).mono ?_;rintro e w1 ⟨⟨A,c,rfl,h1,h2,h3⟩,L⟩;go_wp2
 go_ret
 exact⟨by cases aO name.data.toList l<;>simp,L⟩
theorem II (name:ByteArray) (w:World):
 Calls Tryz.prog 366 #[.pointer none,.string name] w fun e w'=>e= .returned (.bool false)/\ Below w.heap.size w w':=by
 go_enter Tryz.func366,Tryz.ntmps366
 go_wp2_with fail
 refine(kX name w).mono ?_;rintro e w1 ⟨⟨A,c,rfl,h1,h2,h3⟩,L⟩;go_wp2
 go_ret
 exact⟨rfl,L⟩
theorem xP: ∀l:List Bs,Lib.join l [44,32]=kT l
 | []=>rfl
 | [a]=>Lib.join_one _ _
 |a::b::r=>by
  have:=xP (b::r);rw[Lib.join_cons]at this⊢;rw[kT,<- this];simp[Lib.joinTail]
theorem xQ (M:Nat): ∀l:List Bs,(∀v∈l,v.length<= M)->(kT l).length<= l.length*(M+2)
 | [],_=>by simp[kT]
 | [a],h=>by have:=h a (by simp);simp[kT];omega
 |a::b::r,h=>by
  have h1:=h a (by simp)
  have h2:=xQ M (b::r) (fun v hv=>h v (by simp[List.mem_cons.1 hv]))
  rw[kT];simp only[List.length_append,List.length_cons,List.length_nil]at h2⊢;rw[Nat.add_mul (r.length+1) 1];omega
theorem IJ (A:Option Addr) (c B:Nat) (vs:List Bs) (w:World) (hA:Rd w B 1 A vs.length (vs.map tv)) (hB:B<= w.heap.size) (hc:vs.length<= c) (hl:(kT vs).length<= 140737488355328) (hn:vs.length<= 140737488355328):
 Calls Tryz.prog 55 #[.slice A vs.length c,.string ⟨#[44,32]⟩] w fun e w'=>e= .returned (sv (kT vs))/\ Below w.heap.size w w':=by
 rcases Nat.eq_zero_or_pos vs.length with h0|h0
 ·obtain rfl:vs= []:=List.eq_nil_of_length_eq_zero h0
  refine(Tryz.strings_Join_none A c ⟨#[44,32]⟩ w).mono ?_;rintro e w' ⟨rfl,rfl⟩;exact⟨rfl,Below.refl _ _⟩
 ·obtain⟨b,o,rfl,hb,hcell⟩:=hA.2 h0
  have e1:(vs.map fun l=>(⟨l.toArray⟩:ByteArray)).map (·.data.toList)=vs:=by rw[List.map_map];exact(List.map_congr_left (g:=id) fun x _=>rfl).trans (List.map_id vs)
  have hx:=Tryz.strings_Join b o c (vs.map fun l=>(⟨l.toArray⟩:ByteArray)) ⟨#[44,32]⟩ w (fun j x hj=> ?_) (by omega) (by rw[List.length_map];exact hn) (by rw[List.length_map];exact hc) (by rw[e1];rw[show(⟨#[44,32]⟩:ByteArray).data.toList= [44,32]from rfl,xP];exact hl)
  ·rw[e1,show(⟨#[44,32]⟩:ByteArray).data.toList= [44,32]from rfl,xP,List.length_map]at hx
   exact hx
  ·rw[List.getElem?_map,Option.map_eq_some_iff]at hj
   obtain⟨l,hl1,rfl⟩:=hj;exact hcell j _ (by rw[List.getElem?_map,hl1];rfl)
theorem XW (g:Nat) (l:List Fd) (name:ByteArray) (w:World) (hF:FR w 347 g l) (hl:l.length<= 1000000) (hsz:oJ l) (hnm:name.size<= maxLen):
 Calls Tryz.prog 291 #[.pointer (some ⟨g,0,none⟩),.string name] w fun e w'=>e= .returned (sv (kT (aO name.data.toList l)))/\ Below w.heap.size w w':=by
 have hvl:=mX name.data.toList l;have hjl:=xQ 1000000 (aO name.data.toList l) (fun v hv=>by obtain⟨f,h1,rfl⟩:=DT _ _ v hv;exact(hsz f h1).2)
 have hm:(aO name.data.toList l).length*(1000000+2)<= 1000000*(1000000+2):=Nat.mul_le_mul_right _ (by omega)
 go_enter Tryz.func291,Tryz.ntmps291
 go_wp2_with fail
 refine(uG g l name w hF hl hsz hnm).mono ?_;rintro e w1 ⟨⟨A,c,rfl,h1,h2,h3⟩,L⟩;obtain⟨vs,hvs⟩: ∃vs,vs=aO name.data.toList l:=⟨_,rfl⟩;rw[<- hvs]at hvl hjl hm h1 h3⊢;have HV:=Lib.hid hvs;clear hvs;go_wp2_with fail
 refine(IJ A c _ vs w1 h3 (Nat.le_refl _) h1 (by omega) (by omega)).mono ?_
 rintro e w2 ⟨rfl,L2⟩;go_wp2
 go_ret
 exact⟨by rw[<- HV.out];rfl,stepW L L2⟩
theorem nG {ops:Array Oper} {o:Oper} {a:Act} {w0 w:World} {K:Act-> World-> Prop} {Q:Exit-> Act-> World-> Prop} {E:Prop} (hgd:o.guard=none) (s x:Operand)
 (ho:o.op= .call { callee:=.builtin .append,args:=#[s,x],argTypes:=#[33,33] })
 (base:Nat) (v:Value) (l:Bs) (hs:a.eval s=v) (hown:OB w0 base v l) (hw:Below w0.heap.size w0 w) (A:Option Addr) (n c B:Nat) (hx:a.eval x= .slice A n c) (m:Bs) (hr:Rd w B 1 A n (m.map bv))
 (hlen:l.length+m.length<= 140737488355328) (hbase:base<= w0.heap.size)
 (hK: ∀v' w',OB w' base v' (l++m)-> Ext w0 w' v v'-> K (a.put o.dst v') w'):
 if Region.wanted o (yielded ops a.tmps)=true then Oper.wp Tryz.prog o a w K Q else E:=by
 have hwt:Region.wanted o (yielded ops a.tmps)=true:=by simp[Region.wanted,hgd]
 rw[if_pos hwt];have hn:m.length=n:=by simpa using hr.1
 subst hn;obtain⟨i0,hi,hz0,hz1,hz2⟩:=info_parts lT;obtain⟨v',w',hrun,h2,h3,h4⟩:=gy (P:=Tryz.prog) w base 33 33 o.type 5 i0 _ 1 1 Tryz.underlying33 (.inl Tryz.underlying33) hi hz0 hz1 hz2 rfl (by decide) v l.length _ (hown.ah hw) (.slice A m.length c) m.length _ (Src.fB hr (uD m)) (by unfold maxLen;omega) (by omega) (Nat.le_trans hbase hw.size)
 have e:(l.map bv++m.map bv)=(l++m).map bv:=by simp
 rw[e]at h2;have key:=hK v' w' (by unfold OB;rw[List.length_append];exact h2) (oH hw h3 h4)
 unfold Oper.wp;simp[execOp,ho,resolve,invoke,builtin,hs,hx,hrun,Result.andThen];exact key
theorem Own.lt2 {w:World} {base e size n:Nat} {v:Value} {xs:List Value} (h:Own w base e size v n xs) {k:Nat} (hk:v.ownBlock=some k):k<w.heap.size:=(h.lt k hk).2
structure O3 (w:World) (T:TypeId) (g:Nat) (cs:Array Value) (vl vb vt:Value) (L B:Bs) (F:List Fd):Prop where
 blk:Blk w g T cs
 ol:OB w 0 vl L
 ob:OB w 0 vb B
 ot:OF w 0 vt F
 nl:vl.ownBlock≠some g
 nb:vb.ownBlock≠some g
 nt:vt.ownBlock≠some g
 lb: ∀k,vl.ownBlock=some k-> vb.ownBlock≠some k
 lt: ∀k,vl.ownBlock=some k-> vt.ownBlock≠some k
 bt: ∀k,vb.ownBlock=some k-> vt.ownBlock≠some k
def foot (g:Nat) (vl vb vt:Value):Nat-> Prop:=fun k=>k=g\/ vl.ownBlock=some k\/ vb.ownBlock=some k\/ vt.ownBlock=some k
namespace O3
variable {w w':World} {T:TypeId} {g:Nat} {cs:Array Value} {vl vb vt vl' vb' vt':Value} {L B L' B':Bs} {F F':List Fd}
theorem XY (h:O3 w T g cs vl vb vt L B F) {k:Nat} (hk:foot g vl vb vt k):k<w.heap.size:=by
 rcases hk with rfl|hk|hk|hk
 ·exact h.blk.lt
 ·exact Own.lt2 h.ol hk
 ·exact Own.lt2 h.ob hk
 ·exact Own.lt2 h.ot hk
theorem fr {S:Nat-> Prop} (h:O3 w T g cs vl vb vt L B F) (hf:Fr S w w') (hs: ∀k,foot g vl vb vt k-> ¬S k):O3 w' T g cs vl vb vt L B F:=
 ⟨h.blk.fr hf (hs g (.inl rfl)),Own.fr h.ol hf fun k hk=>hs k (.inr (.inl hk)),Own.fr h.ob hf fun k hk=>hs k (.inr (.inr (.inl hk))),Own.fr h.ot hf fun k hk=>hs k (.inr (.inr (.inr hk))),h.nl,h.nb,h.nt,h.lb,h.lt,h.bt⟩
theorem ah (h:O3 w T g cs vl vb vt L B F) (hb:Below w.heap.size w w'):O3 w' T g cs vl vb vt L B F:=
 ⟨h.blk.ah hb,h.ol.ah hb,h.ob.ah hb,h.ot.ah hb,h.nl,h.nb,h.nt,h.lb,h.lt,h.bt⟩
theorem drewN (h:O3 w T g cs vl vb vt L B F) (n:Nat):O3 (w.drewN n) T g cs vl vb vt L B F:=
 ⟨h.blk.drewN n,h.ol.drewN n,h.ob.drewN n,Own.drewN h.ot n,h.nl,h.nb,h.nt,h.lb,h.lt,h.bt⟩
theorem ay (h:O3 w T g cs vl vb vt L B F) (i:Nat) (u:Value):O3 (w.setCell ⟨g,i,none⟩ u) T g (cs.setIfInBounds i u) vl vb vt L B F:=
 ⟨h.blk.ay i u,Own.far h.ol (p:=⟨g,i,none⟩) (fun k hk e=>h.nl (by rw[hk];exact congrArg some e)) u,Own.far h.ob (p:=⟨g,i,none⟩) (fun k hk e=>h.nb (by rw[hk];exact congrArg some e)) u,Own.far h.ot (p:=⟨g,i,none⟩) (fun k hk e=>h.nt (by rw[hk];exact congrArg some e)) u,h.nl,h.nb,h.nt,h.lb,h.lt,h.bt⟩
theorem FY (h:O3 w T g cs vl vb vt L B F) (hx:Ext w w' vl vl') (ho:OB w' 0 vl' L'):O3 w' T g cs vl' vb vt L' B F:=by
 refine⟨h.blk.fr hx.fr h.nl,ho,hx.keep h.ob h.lb,hx.keep h.ot h.lt,?_,h.nb,h.nt,?_,?_,h.bt⟩
 ·intro hg
  rcases hx.own g hg with h1|h1
  ·exact h.nl h1
  ·have:=h.blk.lt;omega
 ·intro k hk hv
  rcases hx.own k hk with h1|h1
  ·exact h.lb k h1 hv
  ·have:=Own.lt2 h.ob hv;omega
 ·intro k hk hv
  rcases hx.own k hk with h1|h1
  ·exact h.lt k h1 hv
  ·have:=Own.lt2 h.ot hv;omega
theorem Dh (h:O3 w T g cs vl vb vt L B F) (hx:Ext w w' vb vb') (ho:OB w' 0 vb' B'):O3 w' T g cs vl vb' vt L B' F:=by
 refine⟨h.blk.fr hx.fr h.nb,hx.keep h.ol (fun k h1 h2=>h.lb k h2 h1),ho,hx.keep h.ot h.bt,h.nl,?_,h.nt,?_,h.lt,?_⟩
 ·intro hg
  rcases hx.own g hg with h1|h1
  ·exact h.nb h1
  ·have:=h.blk.lt;omega
 ·intro k hk hv
  rcases hx.own k hv with h1|h1
  ·exact h.lb k hk h1
  ·have:=Own.lt2 h.ol hk;omega
 ·intro k hk hv
  rcases hx.own k hk with h1|h1
  ·exact h.bt k h1 hv
  ·have:=Own.lt2 h.ot hv;omega
theorem ZV (h:O3 w T g cs vl vb vt L B F) (hx:Ext w w' vt vt') (ho:OF w' 0 vt' F'):O3 w' T g cs vl vb vt' L B F':=by
 refine⟨h.blk.fr hx.fr h.nt,hx.keep h.ol (fun k h1 h2=>h.lt k h2 h1),hx.keep h.ob (fun k h1 h2=>h.bt k h2 h1),ho,h.nl,h.nb,?_,h.lb,?_,?_⟩
 ·intro hg
  rcases hx.own g hg with h1|h1
  ·exact h.nt h1
  ·have:=h.blk.lt;omega
 ·intro k hk hv
  rcases hx.own k hv with h1|h1
  ·exact h.lt k hk h1
  ·have:=Own.lt2 h.ol hk;omega
 ·intro k hk hv
  rcases hx.own k hv with h1|h1
  ·exact h.bt k hk h1
  ·have:=Own.lt2 h.ob hk;omega
theorem TV (h:O3 w T g cs vl vb vt L B F) (hL:0<L.length): ∃b c,vl= .slice (some ⟨b,0,none⟩) L.length c/\ O3 w T g cs (.slice (some ⟨b,0,none⟩) 0 c) vb vt [] B F:=by
 obtain⟨b,c,e,ho⟩:=Own.cut h.ol (k:=0) (Nat.zero_le _) hL;subst e;refine⟨b,c,rfl,h.blk,?_,h.ob,h.ot,?_,h.nb,h.nt,?_,?_,h.bt⟩
 ·unfold OB;simpa using ho
 ·have:=h.nl;simpa [Value.ownBlock] using this
 ·have:=h.lb;simpa [Value.ownBlock] using this
 ·have:=h.lt;simpa [Value.ownBlock] using this
end O3
structure Moved (S S':Nat-> Prop) (w w':World):Prop where
 fr:Fr S w w'
 foot: ∀k,S' k-> S k\/ w.heap.size<= k
theorem Moved.refl (S:Nat-> Prop) (w:World):Moved S S w w:=⟨Fr.refl _ _,fun _ h=>.inl h⟩
theorem Moved.trans {S S' S'':Nat-> Prop} {w w' w'':World} (h:Moved S S' w w') (k:Moved S' S'' w' w''):Moved S S'' w w'':=
 ⟨h.fr.trans k.fr h.foot,fun i hi=>by
   rcases k.foot i hi with h1|h1
   ·exact h.foot i h1
   ·exact .inr (Nat.le_trans h.fr.size h1)⟩
theorem Moved.ah {S S':Nat-> Prop} {w w' w'':World} (h:Moved S S' w w') (hb:Below w'.heap.size w' w''):Moved S S' w w'':=⟨h.fr.ah hb,h.foot⟩
theorem Moved.ay {S S':Nat-> Prop} {w w':World} (h:Moved S S' w w') {p:Addr} (hp:S p.block) (u:Value):Moved S S' w (w'.setCell p u):=⟨h.fr.setCell (.inl hp) u,h.foot⟩
theorem Moved.toBelow {S S':Nat-> Prop} {w0 w w':World} (h:Moved S S' w w') (L:Below w0.heap.size w0 w) (hS: ∀k,S k-> w0.heap.size<= k):Below w0.heap.size w0 w':=L.trans (h.fr.toBelow L.size hS)
theorem Moved.drewN {S S':Nat-> Prop} {w w':World} (h:Moved S S' w w') (n:Nat):Moved S S' w (w'.drewN n):=⟨h.fr.drewN n,h.foot⟩
theorem Moved.drew {S S':Nat-> Prop} {w w':World} (h:Moved S S' w w'):Moved S S' w w'.drew:=⟨h.fr.drew,h.foot⟩
theorem Moved.alloc {S S':Nat-> Prop} {w w':World} (h:Moved S S' w w') (o:Obj):Moved S S' w (w'.alloc o):=⟨h.fr.alloc o,h.foot⟩
structure KW (w0:World) (S:Nat-> Prop) (w:World) (T:TypeId) (g:Nat) (cs:Array Value) (vl vb vt:Value) (L B:Bs) (F:List Fd):Prop where
 o:O3 w T g cs vl vb vt L B F
 m:Moved S (foot g vl vb vt) w0 w
namespace KW
variable {w0 w w':World} {S:Nat-> Prop} {T:TypeId} {g:Nat} {cs:Array Value} {vl vb vt vl' vb' vt':Value} {L B L' B':Bs} {F F':List Fd}
theorem refl (h:O3 w T g cs vl vb vt L B F):KW w (foot g vl vb vt) w T g cs vl vb vt L B F:=⟨h,Moved.refl _ _⟩
theorem ay (h:KW w0 S w T g cs vl vb vt L B F) {i:Nat} {u:Value} :KW w0 S (w.setCell ⟨g,i,none⟩ u) T g (cs.setIfInBounds i u) vl vb vt L B F:=⟨h.o.ay i u,by
 have h1:Moved (foot g vl vb vt) (foot g vl vb vt) w (w.setCell ⟨g,i,none⟩ u):=(Moved.refl _ _).ay (.inl rfl) u
 exact h.m.trans h1⟩
theorem drewN (h:KW w0 S w T g cs vl vb vt L B F) {n:Nat} :KW w0 S (w.drewN n) T g cs vl vb vt L B F:=⟨h.o.drewN n,h.m.drewN n⟩
theorem drew (h:KW w0 S w T g cs vl vb vt L B F):KW w0 S w.drew T g cs vl vb vt L B F:=⟨h.o.drewN 1,h.m.drew⟩
theorem ah (h:KW w0 S w T g cs vl vb vt L B F) (hb:Below w.heap.size w w'):KW w0 S w' T g cs vl vb vt L B F:=⟨h.o.ah hb,h.m.ah hb⟩
theorem alloc (h:KW w0 S w T g cs vl vb vt L B F) {o:Obj} :KW w0 S (w.alloc o) T g cs vl vb vt L B F:=h.ah (aj (Below.refl _ _) o)
theorem moved {S':Nat-> Prop} (h:KW w0 S w T g cs vl vb vt L B F) {cs':Array Value} (hm:Moved (foot g vl vb vt) S' w w') (ho:O3 w' T g cs' vl' vb' vt' L' B' F') (hS:S'=foot g vl' vb' vt'):KW w0 S w' T g cs' vl' vb' vt' L' B' F':=⟨ho,hS▸h.m.trans hm⟩
theorem FY (h:KW w0 S w T g cs vl vb vt L B F) (hx:Ext w w' vl vl') (ho:OB w' 0 vl' L'):KW w0 S w' T g cs vl' vb vt L' B F:=
 ⟨h.o.FY hx ho,h.m.trans ⟨hx.fr.mono fun k hk=>.inl (.inr (.inl hk)),fun k hk=>by
   rcases hk with hk|hk|hk|hk
   ·exact .inl (.inl hk)
   ·rcases hx.own k hk with h1|h1
    ·exact .inl (.inr (.inl h1))
    ·exact .inr h1
   ·exact .inl (.inr (.inr (.inl hk)))
   ·exact .inl (.inr (.inr (.inr hk)))⟩⟩
theorem Dh (h:KW w0 S w T g cs vl vb vt L B F) (hx:Ext w w' vb vb') (ho:OB w' 0 vb' B'):KW w0 S w' T g cs vl vb' vt L B' F:=
 ⟨h.o.Dh hx ho,h.m.trans ⟨hx.fr.mono fun k hk=>.inl (.inr (.inr (.inl hk))),fun k hk=>by
   rcases hk with hk|hk|hk|hk
   ·exact .inl (.inl hk)
   ·exact .inl (.inr (.inl hk))
   ·rcases hx.own k hk with h1|h1
    ·exact .inl (.inr (.inr (.inl h1)))
    ·exact .inr h1
   ·exact .inl (.inr (.inr (.inr hk)))⟩⟩
theorem ZV (h:KW w0 S w T g cs vl vb vt L B F) (hx:Ext w w' vt vt') (ho:OF w' 0 vt' F'):KW w0 S w' T g cs vl vb vt' L B F':=
 ⟨h.o.ZV hx ho,h.m.trans ⟨hx.fr.mono fun k hk=>.inl (.inr (.inr (.inr hk))),fun k hk=>by
   rcases hk with hk|hk|hk|hk
   ·exact .inl (.inl hk)
   ·exact .inl (.inr (.inl hk))
   ·exact .inl (.inr (.inr (.inl hk)))
   ·rcases hx.own k hk with h1|h1
    ·exact .inl (.inr (.inr (.inr h1)))
    ·exact .inr h1⟩⟩
theorem TV (h:KW w0 S w T g cs vl vb vt L B F) (hL:0<L.length): ∃b c,vl= .slice (some ⟨b,0,none⟩) L.length c/\ KW w0 S w T g cs (.slice (some ⟨b,0,none⟩) 0 c) vb vt [] B F:=by
 obtain⟨b,c,e,ho⟩:=h.o.TV hL;subst e;exact⟨b,c,rfl,ho,⟨h.m.fr,h.m.foot⟩⟩
end KW
def Hi (S:Nat-> Prop):Prop:= ∀k,S k-> 0<k
theorem ML.lt {w:World} (h:ML w):0<w.heap.size:=by
 obtain⟨m,hm⟩:=h;rcases Nat.lt_or_ge 0 w.heap.size with h1|h1
 ·exact h1
 ·simp[World.cell?,Array.getElem?_eq_none h1]at hm
theorem ML.fr {w w':World} {S:Nat-> Prop} (h:ML w) (hf:Fr S w w') (hh:Hi S):ML w':=by
 have h1:=h.lt;obtain⟨m,hm⟩:=h;exact⟨m,(hf.cell (p:=⟨0,0,none⟩) h1 (fun hs=>Nat.lt_irrefl _ (hh _ hs))).trans hm⟩
theorem ML.ay {w:World} (h:ML w) {p:Addr} (hp:0<p.block) (u:Value):ML (w.setCell p u):=
 h.fr ((Fr.refl (fun k=>k=p.block) w).setCell (.inl rfl) u) fun k hk=>by rw[hk];exact hp
theorem Hi.moved {S S':Nat-> Prop} {w w':World} (h:Hi S) (hm:ML w) (m:Moved S S' w w'):Hi S':=by
 intro k hk;rcases m.foot k hk with h1|h1
 ·exact h k h1
 ·exact Nat.lt_of_lt_of_le hm.lt h1
theorem Own.lit (w:World) (g:Nat) (hg:g=w.heap.size) (base:Nat) (hb:base<= g) (e:TypeId) (size n:Nat) (cs:List Value) (hs:cs.length=n*size) (hn:n<= maxLen):Own (w.alloc (.cells cs.toArray e)) base e size (.slice (some ⟨g,0,none⟩) n n) n cs:=
 ⟨hs,.inr ⟨g,n,cs.toArray,(0,0),rfl,hb,by rw[hg];exact heap_alloc_new w _,.inl (Nat.le_refl _),Nat.le_refl _,hn,by simpa using hs,by rw[List.take_of_length_le (by simp;omega)]⟩⟩
theorem neT {a b:Int} (h:(a != b)=true):a≠b:=by simpa using h
theorem neF {a b:Int} (h:(a != b)=false):a=b:=by simpa using h
theorem nH {α:Type} (l:List α) (k:Nat) (h:k<l.length): ∃x,l[k]? = some x/\ l.drop k=x::l.drop (k+1):=⟨l[k],List.getElem?_eq_getElem h,List.drop_eq_getElem_cons h⟩
theorem zl {α β:Type} (f:α-> β) (l:List α) (k:Nat) (x:α) (h:l[k]? = some x):(l.map f)[k]? = some (f x):=by simp[h]
theorem DX: ∀(l:List Fd) (k:Nat) (f:Fd),l[k]? = some f->(aQ l)[k*2]? = some (sv f.1)/\ (aQ l)[k*2+1]? = some (sv f.2)
 | [],k,f,h=>by simp at h
 |g::l,0,f,h=>by
  obtain rfl:g=f:=by simpa using h
  simp[aQ]
 |g::l,k+1,f,h=>by
  have:=DX l k f (by simpa using h)
  have e:(k+1)*2=k*2+1+1:=by omega
  simpa [aQ,e] using this
theorem Rd.XZ (w:World) (g:Nat) (hg:g=w.heap.size) (cs:List Value) (t:TypeId) (fr:Nat×Nat) (n size:Nat) (h:cs.length=n*size):Rd (w.alloc (.cells cs.toArray t fr)) (g+1) size (some ⟨g,0,none⟩) n cs:=
 ⟨h,fun _=>⟨g,0,rfl,by omega,fun j u hu=>by rw[Nat.zero_add,Go.Joins.cell_alloc_mark_at w _ t fr g j hg];simpa using hu⟩⟩
def KX (w:World) (s:Bs) (e:Ending) (w':World):Prop:=
 (∃(f:Fd) (er:Int),e= .returned (.tuple #[.agg #[sv f.1,sv f.2],.int .i64 er])/\ ((eX s=some f/\ er=0)\/ (eX s=none/\ (er=8\/ er=9))))/\ Below w.heap.size w w'
theorem IK (l:Bs):(bf l).length<= l.length:=by
 refine Nat.le_trans ?_ (ny l);unfold bf Ie;rw[List.length_reverse];refine Nat.le_trans (List.dropWhile_sublist _).length_le ?_;rw[List.length_reverse];exact Nat.le_refl _
theorem IL (c:UInt8) (l:Bs):hasB c l=true↔c∈l:=by
 unfold hasB
 induction l with
 |nil=>simp
 |cons b l ih=>
  by_cases h:b=c
  ·subst h;simp
  ·have h1:(b != c)=true:=by simpa using h
   rw[List.dropWhile_cons,h1,if_pos rfl,ih];simp[Ne.symm h]
theorem Py (s:Bs) (h:hasB 58 s=false):eX s=none:=by
 rw[eX];split
 ·rfl
 ·rw[if_neg];intro h2;rw[(IL 58 s).2 h2]at h;cases h
theorem KY (s:Bs) (h:hasB 58 s=true) (hl:s.length<= 256) (f:Fd) (hf:f=(iP 58 s,bf (tC 58 s))):eX s=if isF f then some f else none:=by
 subst hf;rw[eX,if_neg (by omega),if_pos ((IL 58 s).1 h)]
 rfl
theorem Pz (s:ByteArray) (w:World) (hm:ML w):
 Calls Tryz.prog 370 #[.string s] w (KX w s.data.toList):=by
 have hl:=au s;have LW:Below w.heap.size w (w.alloc (.cells #[.string ⟨#[]⟩,.string ⟨#[]⟩] 86)):=aj (Below.refl _ _) _;have B1:Blk (w.alloc (.cells #[.string ⟨#[]⟩,.string ⟨#[]⟩] 86)) w.heap.size 86 #[.string ⟨#[]⟩,.string ⟨#[]⟩]:=Blk.new' _ _ rfl _ _;by_cases h256:256<s.size
 ·have HR:=Lib.hid (show eX s.data.toList=none by rw[eX,if_pos (by omega)])
  clear hl hm;go_enter Tryz.func370,Tryz.ntmps370
  go_wp2
  refine bodyPost_ret (v:=.tuple #[.agg #[.string ⟨#[]⟩,.string ⟨#[]⟩],.int .i64 9]) (by simp[results,Tryz.results370,go_sem]) rfl ⟨⟨([],[]),9,rfl,.inr ⟨HR.out,.inr rfl⟩⟩,?_⟩
  repeat first|refine setW ?_ (by simp) _|refine below_drewN' (n:=1) ?_ 1
  exact aj (Below.refl _ _) _
 have hle:s.size<= 256:=by omega
 have hm1:=hm.below LW (Nat.le_refl _);go_enter Tryz.func370,Tryz.ntmps370
 go_wp2_with fail
 obtain⟨V,hV⟩: ∃V,V=w.alloc (.cells #[.string ⟨#[]⟩,.string ⟨#[]⟩] 86):=⟨_,rfl⟩;rw[<- hV]at B1 LW hm1⊢;clear hV hm;refine(zU s 58 V (by omega) hm1).mono ?_
 obtain⟨f,hf⟩: ∃f:Fd,f=(iP 58 s.data.toList,bf (tC 58 s.data.toList)):=⟨_,rfl⟩;have hf1:iP 58 s.data.toList=f.1:=by rw[hf]
 have hf2:bf (tC 58 s.data.toList)=f.2:=by rw[hf]
 have hz1:f.1.length<= 1000000:=by rw[<- hf1];have:=qA 58 s.data.toList;omega
 have hz2:(tC 58 s.data.toList).length<= 1000000:=by have:=zW 58 s.data.toList;omega
 have hz3:f.2.length<= 1000000:=by rw[<- hf2];exact Nat.le_trans (IK _) hz2
 have hP:=fun h=>Lib.hid (KY s.data.toList h (by omega) f hf)
 have hN:=fun h=>Lib.hid (Py s.data.toList h)
 obtain⟨N,hN'⟩: ∃N:ByteArray,N=⟨f.1.toArray⟩:=⟨_,rfl⟩;obtain⟨M,hM'⟩: ∃M:ByteArray,M=⟨f.2.toArray⟩:=⟨_,rfl⟩;have e1:sv f.1= .string N:=by rw[hN']
 have e2:sv f.2= .string M:=by rw[hM']
 have E1:=Lib.hid e1;have E2:=Lib.hid e2;rw[hf1,e1];generalize hq:tC 58 s.data.toList=q at hf2 hz2;rintro e w1 ⟨rfl,L1⟩;have B2:=B1.ah L1;have L2:=stepW LW L1;clear hf hf1 hq B1 LW L1 hm1;go_wp2_with fail
 refine(qh ⟨q.toArray⟩ w1 (by show q.length<= maxLen;unfold maxLen;omega)).mono ?_
 rw[show(⟨q.toArray⟩:ByteArray).data.toList=q from rfl,hf2,e2]
 rintro e w2 ⟨rfl,L3⟩;have B3:=B2.ah L3;have L4:=stepW L2 L3;clear B2 L2 L3 e1 e2 hN' hM';have L5:=aj L4 (.cells #[.string N,.string M] 86);have B5:=B3.alloc (.cells #[.string N,.string M] 86);have C5:Blk (w2.alloc (.cells #[.string N,.string M] 86)) w2.heap.size 86 #[.string N,.string M]:=Blk.new' _ _ rfl _ _;obtain⟨j0,j1,i0,i1⟩:=B5.c2;obtain⟨k0,k1,n0,n1⟩:=C5.c2;cases hh:hasB 58 s.data.toList
 ·have HR:=hN hh
  clear hP hN hh hl;go_wp2
  refine bodyPost_ret (v:=.tuple #[.agg #[.string ⟨#[]⟩,.string ⟨#[]⟩],.int .i64 8]) (by simp[results,Tryz.results370,go_sem,j0,j1]) rfl ⟨⟨([],[]),8,rfl,.inr ⟨HR.out,.inl rfl⟩⟩,?_⟩
  repeat refine setW ?_ (by simp) _
  exact L5
 have HR0:=hP hh;clear hP hN hl;have hO:=fun w=>DW f w hz1 hz3
 rw[E1.out,E2.out]at hO;go_wp2_with fail
 refine(hO _).mono ?_;obtain⟨V2,hV⟩: ∃V2,V2=w2.alloc (.cells #[.string N,.string M] 86):=⟨_,rfl⟩;rw[<- hV]at B5 C5 L5⊢;clear hV j0 j1 i0 i1 k0 k1 n0 n1 hO;rintro e w4 ⟨rfl,L6⟩;obtain⟨j0,j1,i0,i1⟩:=(B5.ah L6).c2;obtain⟨k0,k1,n0,n1⟩:=(C5.ah L6).c2;have L7:=stepW L5 L6;clear B3 L4 B5 C5 L5 L6;cases hi:isF f
 ·have HR:=Lib.hid (HR0.out.trans (if_neg (by rw[hi];decide)))
  clear HR0 hi;go_wp2
  refine bodyPost_ret (v:=.tuple #[.agg #[.string ⟨#[]⟩,.string ⟨#[]⟩],.int .i64 8]) (by simp[results,Tryz.results370,go_sem,j0,j1]) rfl ⟨⟨([],[]),8,rfl,.inr ⟨HR.out,.inl rfl⟩⟩,?_⟩
  repeat refine setW ?_ (by simp) _
  exact L7
 ·have HR:=Lib.hid (HR0.out.trans (if_pos hi))
  clear HR0 hi;go_wp2
  refine bodyPost_ret (v:=.tuple #[.agg #[.string N,.string M],.int .i64 0]) (by simp[results,Tryz.results370,go_sem,j0,j1]) rfl ⟨⟨f,0,by rw[E1.out,E2.out],.inl ⟨HR.out,rfl⟩⟩,?_⟩
  repeat refine setW ?_ (by simp) _
  exact L7
theorem Aj (s:ByteArray) (w:World) (hm:ML w):
 Calls Tryz.prog 370 #[.string s] w fun e w'=>(∃(N M:ByteArray) (er:Int),e= .returned (.tuple #[.agg #[.string N,.string M],.int .i64 er])/\
  ((eX s.data.toList=some (N.data.toList,M.data.toList)/\ er=0)\/ (eX s.data.toList=none/\ (er=8\/ er=9))))/\ Below w.heap.size w w':=by
 refine(Pz s w hm).mono ?_;rintro e w' ⟨⟨f,er,rfl,h⟩,L⟩;exact⟨⟨⟨f.1.toArray⟩,⟨f.2.toArray⟩,er,rfl,h⟩,L⟩
theorem TW (N M:ByteArray):aQ [((N.data.toList,M.data.toList):Fd)]= [.string N,.string M]:=by
 show [sv N.data.toList,sv M.data.toList]=_;rw[sv,sv,<- ou,<- ou]
end Go.Proofs.YtdmondfpepbniaaGreatDoor
