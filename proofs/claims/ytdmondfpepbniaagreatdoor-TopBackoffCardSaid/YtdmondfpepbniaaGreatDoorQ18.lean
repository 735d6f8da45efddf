/- Part 18 of the proof: PPl Vr. -/
import Derived.IntWalk
import Derived.Test.YtdmondfpepbniaaGreatDoorQ07
import Derived.Test.YtdmondfpepbniaaGreatDoorQ08
namespace Go.Proofs.YtdmondfpepbniaaGreatDoor
open Go.RowKit
set_option maxRecDepth 100000
set_option maxHeartbeats 4000000
set_option linter.all false
structure HLen (h:HS):Prop where
 len0:0<= h.how.len
 len1:h.how.len<= 2048
 kind:h.how.kind=0\/ h.how.kind=1\/ h.how.kind=2
 none:h.how.kind=0-> h.how.len=0
 whole:h.whole=true-> h.status=0
 meth:h.begun=true↔h.method≠[]
theorem YN:HLen hs0:=⟨by decide,by decide,by decide,by decide,by decide,by decide⟩
theorem GI: ∀(t:List Bs) (n:Int),jk t=some n-> 0<= n
 | [],n,h=>by simp[jk]at h
 |s::r,n,h=>by
  rw[jk,Option.bind_eq_some_iff]at h;obtain⟨m,h1,h2⟩:=h;have h3:0<= m:=by
   rw[dA]at h1;split at h1
   ·cases h1
   ·exact qH 10 (by decide) s 0 m (by decide) h1
  split at h2
  ·injection h2 with h2;omega
  ·cases h2
theorem YO (t:List Bs):0<=(pR t).1/\ (pR t).1<= 2048:=by
 unfold pR;split
 ·decide
 ·rename_i n hn
  have h0:=GI t n hn;split
  ·exact⟨h0,by simpa using ‹n<= 2048›⟩
  ·decide
theorem YP (cl:List Bs):0<=(KU cl).1/\ (KU cl).1<= 2048:=by
 unfold KU;split
 ·decide
 ·exact YO _
theorem Qu (first:Bool) (kind len:Int) (l:List Fd):(ng first kind len l).1=eU\/ ((ng first kind len l).1.kind=kind/\ (ng first kind len l).1.len=len):=by
 unfold ng;split
 ·exact .inl rfl
 ·simp only
  split
  ·split
   ·exact .inr ⟨rfl,rfl⟩
   ·exact .inl rfl
  ·exact .inr ⟨rfl,rfl⟩
def VG (y:How):Prop:=0<= y.len/\ y.len<= 2048/\ (y.kind=0\/ y.kind=1\/ y.kind=2)/\ (y.kind=0-> y.len=0)
theorem GK:VG eU:=⟨by decide,by decide,by decide,by decide⟩
theorem VH (b:Bool) (l:List Fd):VG (yV b l).1:=by
 unfold yV;split
 ·simp only
  split
  ·have hb:VG ⟨(lU b (aO teN l) (aO clN l)).1,(lU b (aO teN l) (aO clN l)).2.1,false,false⟩:=by
    unfold lU;split
    ·split
     ·exact⟨by simp,by simp,by simp,by simp⟩
     ·obtain⟨h1,h2⟩:=YP (aO clN l)
      exact⟨h1,h2,by simp,by simp⟩
    ·exact⟨by simp,by simp,by simp,by simp⟩
   obtain⟨h1,h2,h3,h4⟩:=hb;rcases Qu b (lU b (aO teN l) (aO clN l)).1 (lU b (aO teN l) (aO clN l)).2.1 l with h| ⟨e1,e2⟩
   ·rw[h];exact GK
   ·exact⟨by rw[e2];exact h1,by rw[e2];exact h2,by rw[e1];exact h3,by rw[e1,e2];exact h4⟩
  ·exact GK
 ·exact GK
theorem Js (s:Bs) (h:(aU s).1=0):(aU s).2.1≠[]:=by
 revert h
 unfold aU;split
 ·rename_i m t v _
  split
  ·rename_i hm
   have hm':m≠[]:=by
    rintro rfl
    revert hm;decide
   split
   ·simp
   ·split
    ·split
     ·intro _;exact hm'
     ·split<;>simp
    ·simp
  ·simp
 ·simp
theorem Eu (h:HS) (s:Bs) (hi:HLen h):HLen (jP h s):=by
 cases ho:h.on
 ·rw[xR h s ho];exact hi
 obtain⟨h1,h2⟩:=h.eY ho;rw[lq h s ho];split
 ·exact⟨hi.len0,hi.len1,hi.kind,hi.none,fun h9=>(by simp only at h9;rw[h1]at h9;cases h9),hi.meth⟩
 ·split
  ·split
   ·exact⟨hi.len0,hi.len1,hi.kind,hi.none,fun h9=>(by simp only at h9;rw[h1]at h9;cases h9),hi.meth⟩
   ·split
    ·rename_i h0
     exact⟨hi.len0,hi.len1,hi.kind,hi.none,fun _=>h2,⟨fun _=>Js s h0,fun _=>rfl⟩⟩
    ·exact⟨hi.len0,hi.len1,hi.kind,hi.none,fun h9=>(by simp only at h9;rw[h1]at h9;cases h9),hi.meth⟩
  ·split
   ·obtain⟨a1,a2,a3,a4⟩:=VH (decide (1<= h.minor)) h.bJ
    exact⟨a1,a2,a3,a4,fun h9=>by simpa using h9,hi.meth⟩
   ·exact⟨hi.len0,hi.len1,hi.kind,hi.none,fun h9=>(by simp only at h9;rw[h1]at h9;cases h9),hi.meth⟩
structure PS where
 phase:Nat
 status:Int
 line:Bs
 head:HS
 left:Nat
 body:Bs
 chunks:Option CS
 fed:Nat
def p0:PS:=⟨0,0,[],hs0,0,[],none,0⟩
def jd (p:PS):PS:=
 if p.head.how.kind=2 then { p with phase:=2,chunks:=some cs0 }
 else if 0<p.head.how.len then { p with phase:=2,left:=p.head.how.len.toNat }
 else { p with phase:=3 }
def Bj (p:PS) (h:HS):PS:=
 if h.status≠0 then { p with phase:=4,line:= [],head:=h,status:=h.status }
 else if h.whole then jd { p with phase:=1,line:= [],head:=h } else { p with phase:=1,line:= [],head:=h }
def gW (p:PS) (c:UInt8):PS:=
 if c=10 then(if p.line.getLast? = some 13 then Bj p (jP p.head p.line.dropLast)else { p with phase:=4,status:=400 })
 else if 256<p.line.length+(if c=13 then 0 else 1)then { p with phase:=4,line:=p.line++ [c],status:=if p.head.begun then 431 else 414 }
 else { p with phase:=1,line:=p.line++ [c] }
def bU (p:PS) (r:CS) (n:Nat):PS:=
 { p with chunks:=some r,fed:=p.fed+n,body:=if r.whole then r.body else p.body,phase:=if r.status≠0 then 4 else if r.whole then 3 else 2,status:=if r.status≠0 then r.status else p.status }
def ku (p:PS) (l:Bs):PS:= { p with body:=p.body++l,left:=p.left-l.length,fed:=p.fed+l.length,phase:=if p.left=l.length then 3 else 2 }
def Ew (p:PS) (c:UInt8):PS:=
 match p.chunks with
 |none=>ku p [c]
 |some r=>bU p (dF r c) 1
def iJ (p:PS) (c:UInt8):PS:=if p.phase=2 then Ew p c else gW p c
def aB:PS-> Bs-> Nat×PS
 |p,[]=>(0,p)
 |p,c::l=>if 3<= p.phase then(0,p)else((aB (iJ p c) l).1+1,(aB (iJ p c) l).2)
theorem Ey (p:PS):aB p []=(0,p):=rfl
theorem rO (p:PS) (l:Bs) (h:3<= p.phase):aB p l=(0,p):=by
 cases l with
 |nil=>rfl
 |cons c l=>rw[aB,if_pos h]
theorem nR (p:PS) (c:UInt8) (l:Bs) (h:p.phase<= 2):aB p (c::l)=((aB (iJ p c) l).1+1,(aB (iJ p c) l).2):=by rw[aB,if_neg (by omega)]
theorem je: ∀(l:Bs) (p:PS),(aB p l).1<= l.length
 | [],p=>Nat.le_refl _
 |c::l,p=>by
  rw[aB];split
  ·exact Nat.zero_le _
  ·have:=je l (iJ p c);simp only[List.length_cons];omega
theorem Ez: ∀(a b:Bs) (p:PS),aB p (a++b)=((aB p a).1+(aB (aB p a).2 b).1,(aB (aB p a).2 b).2)
 | [],b,p=>by rw[List.nil_append,Ey,Nat.zero_add]
 |c::a,b,p=>by
  rcases Nat.lt_or_ge p.phase 3 with h|h
  ·rw[List.cons_append,nR p c _ (by omega),nR p c a (by omega),Ez a b (iJ p c)]
   simp only;rw[Nat.add_right_comm]
  ·rw[rO p _ h,rO p _ h]
   simp only[Nat.zero_add,rO p _ h]
theorem VI (p:PS) (a b:Bs) (h:a.length<p.left):ku (ku p a) b=ku p (a++b):=by
 unfold ku;simp only[List.length_append,List.append_assoc,PS.mk.injEq,true_and,Nat.add_assoc,and_true];refine⟨?_,by omega⟩
 by_cases h2:p.left-a.length=b.length
 ·rw[if_pos h2,if_pos (by omega)]
 ·rw[if_neg h2,if_neg (by omega)]
theorem EC: ∀(l r:Bs) (p:PS),p.phase=2-> p.chunks=none-> 0<l.length-> l.length<= p.left-> aB p (l++r)=(l.length+(aB (ku p l) r).1,(aB (ku p l) r).2)
 | [],_,_,_,_,h,_=>absurd h (by simp)
 | [c],r,p,hp,hc,_,_=>by
  have e:iJ p c=ku p [c]:=by rw[iJ,if_pos hp,Ew,hc]
  rw[List.singleton_append,nR p c r (by omega),e,List.length_singleton,Nat.add_comm]
 |c::d::l,r,p,hp,hc,_,h2=>by
  have e:iJ p c=ku p [c]:=by rw[iJ,if_pos hp,Ew,hc]
  have hl:p.left≠1:=by simp at h2;omega
  have hq:(ku p [c]).phase=2:=by simp[ku,hl]
  have hlf:(ku p [c]).left=p.left-1:=rfl;rw[List.cons_append,nR p c _ (by omega),e,EC (d::l) r (ku p [c]) hq hc (by simp) (by rw[hlf];simp at h2⊢;omega),VI p [c] (d::l) (by simp at h2⊢;omega)]
  simp only[List.singleton_append,List.length_cons];rw[Prod.mk.injEq];exact⟨by omega,rfl⟩
theorem Me (p:PS) (r1 r2:CS) (a b:Nat) (h:r1.on=true):bU (bU p r1 a) r2 b=bU p r2 (a+b):=by
 obtain⟨h1,h2⟩:=r1.eY h;unfold bU;simp only[h1,h2,PS.mk.injEq,Nat.add_assoc,true_and,ne_eq,not_true,if_false];refine⟨?_,?_⟩<;>simp
theorem yM: ∀(l:Bs) (p:PS) (r:CS),p.phase=2-> p.chunks=some r-> r.on=true-> 0<l.length-> aB p l=((dU r l).1+(aB (bU p (dU r l).2 (dU r l).1) (l.drop (dU r l).1)).1,(aB (bU p (dU r l).2 (dU r l).1) (l.drop (dU r l).1)).2)
 | [],_,_,_,_,_,h=>absurd h (by simp)
 |c::l,p,r,hp,hc,ho,_=>by
  have e:iJ p c=bU p (dF r c) 1:=by rw[iJ,if_pos hp,Ew,hc]
  rw[nR p c l (by omega),e,qG r c l ho]
  simp only[List.drop_succ_cons];cases ho2:(dF r c).on
  ·rw[rH _ l ho2]
   simp only[List.drop_zero,Nat.zero_add,Prod.mk.injEq,and_true];omega
  ·obtain⟨h1,h2⟩:=(dF r c).eY ho2
   cases l with
   |nil=>
    simp only[dU,aB,List.drop_nil,Nat.zero_add,Nat.add_zero]
   |cons d l=>
    have hq:(bU p (dF r c) 1).phase=2:=by simp[bU,h1,h2]
    rw[yM (d::l) (bU p (dF r c) 1) (dF r c) hq rfl ho2 (by simp)]
    rw[Me _ _ _ _ _ ho2,Nat.add_comm 1];simp only[Prod.mk.injEq,and_true];omega
structure ji (p:PS):Prop where
 ph:p.phase<= 4
 hd:AL p.head
 hl:HLen p.head
 on:p.phase<= 1-> p.head.on=true
 line:p.phase<= 1-> p.line.length<= 257
 ED:p.line.length<= 258
 early:p.phase<= 1-> p.chunks=none/\ p.body= []/\ p.left=0/\ p.fed=0/\ p.status=0
 body:p.body.length+p.left<= 2048
 len:p.phase=2-> p.chunks=none-> 0<p.left
 chk: ∀r,p.chunks=some r-> lu r/\ (p.phase=2-> r.on=true/\ p.body= []/\ p.left=0)
 fresh:p.phase=0-> p=p0
 st:p.phase<= 3-> p.status=0
theorem VJ:ji p0:=⟨by decide,Yi,YN,fun _=>rfl,by decide,by decide,fun _=>⟨rfl,rfl,rfl,rfl,rfl⟩,by decide,fun h=>(by cases h),fun r h=>(by cases h),fun _=>rfl,fun _=>rfl⟩
theorem VK (p:PS) (s:Bs) (h:ji p) (hp:p.phase<= 1):ji (Bj p (jP p.head s)):=by
 obtain⟨e1,e2,e3,e4,e5⟩:=h.early hp;have hI:=PL p.head s h.hd;have hL:=Eu p.head s h.hl;generalize jP p.head s=H at hI hL;unfold Bj;split
 ·refine⟨Nat.le_refl 4,hI,hL,fun h9=>absurd h9 (by simp),fun h9=>absurd h9 (by simp),by simp,fun h9=>absurd h9 (by simp),h.body,fun h9=>absurd h9 (by simp),fun r hr=> ?_,fun h9=>absurd h9 (by simp),fun h9=>absurd h9 (by simp)⟩
  exfalso;have hr':p.chunks=some r:=hr;rw[e1]at hr';cases hr'
 ·rename_i hs
  have hs0:H.status=0:=by simpa using hs
  split
  ·unfold jd
   simp only;split
   ·exact⟨show(2:Nat)<= 4 by decide,hI,hL,fun h9=>absurd h9 (by simp),fun h9=>absurd h9 (by simp),by simp,fun h9=>absurd h9 (by simp),h.body,fun _ h9=>(by cases h9),fun r hr=>(by injection hr with hr;subst hr;exact⟨Yl,fun _=>⟨rfl,e2,e3⟩⟩),fun h9=>absurd h9 (by simp),fun _=>e5⟩
   ·split
    ·rename_i h0
     have hl1:=hL.len1;refine⟨show(2:Nat)<= 4 by decide,hI,hL,fun h9=>absurd h9 (by simp),fun h9=>absurd h9 (by simp),by simp,fun h9=>absurd h9 (by simp),?_,fun _ _=> ?_,fun r hr=> ?_,fun h9=>absurd h9 (by simp),fun _=>e5⟩
     ·show p.body.length+H.how.len.toNat<= 2048
      rw[e2];simp only[List.length_nil];omega
     ·show 0<H.how.len.toNat
      omega
     ·exfalso
      have hr':p.chunks=some r:=hr;rw[e1]at hr';cases hr'
    ·refine⟨show(3:Nat)<= 4 by decide,hI,hL,fun h9=>absurd h9 (by simp),fun h9=>absurd h9 (by simp),by simp,fun h9=>absurd h9 (by simp),h.body,fun h9=>absurd h9 (by simp),fun r hr=> ?_,fun h9=>absurd h9 (by simp),fun _=>e5⟩
     exfalso;have hr':p.chunks=some r:=hr;rw[e1]at hr';cases hr'
  ·rename_i hw
   have hw0:H.whole=false:=by simpa using hw
   refine⟨show(1:Nat)<= 4 by decide,hI,hL,fun _=>by simp[HS.on,hw0,hs0],fun _=>by simp,by simp,fun _=>⟨e1,e2,e3,e4,e5⟩,h.body,fun h9=>absurd h9 (by simp),fun r hr=> ?_,fun h9=>absurd h9 (by simp),fun _=>e5⟩
   exfalso;have hr':p.chunks=some r:=hr;rw[e1]at hr';cases hr'
theorem Qv (p:PS) (c:UInt8) (h:ji p) (hp:p.phase<= 1):ji (gW p c):=by
 obtain⟨e1,e2,e3,e4,e5⟩:=h.early hp;have hno: ∀r,p.chunks=some r-> False:=fun r hr=>by rw[e1]at hr;cases hr
 have hl:=h.line hp;unfold gW;split
 ·split
  ·exact VK p _ h hp
  ·exact⟨Nat.le_refl 4,h.hd,h.hl,fun h9=>absurd h9 (by simp),fun h9=>absurd h9 (by simp),h.ED,fun h9=>absurd h9 (by simp),h.body,fun h9=>absurd h9 (by simp),fun r hr=>(hno r hr).elim,fun h9=>absurd h9 (by simp),fun h9=>absurd h9 (by simp)⟩
 ·by_cases hlim:256<p.line.length+(if c=13 then 0 else 1)
  ·rw[if_pos hlim]
   refine⟨Nat.le_refl 4,h.hd,h.hl,fun h9=>absurd h9 (by simp),fun h9=>absurd h9 (by simp),?_,fun h9=>absurd h9 (by simp),h.body,fun h9=>absurd h9 (by simp),fun r hr=>(hno r hr).elim,fun h9=>absurd h9 (by simp),fun h9=>absurd h9 (by simp)⟩
   simp only[List.length_append,List.length_singleton];omega
  ·rw[if_neg hlim]
   have hl2:p.line.length+1<= 257:=by
    split at hlim<;>omega
   refine⟨show(1:Nat)<= 4 by decide,h.hd,h.hl,fun _=>h.on hp,fun _=> ?_,?_,fun _=>⟨e1,e2,e3,e4,e5⟩,h.body,fun h9=>absurd h9 (by simp),fun r hr=>(hno r hr).elim,fun h9=>absurd h9 (by simp),fun _=>e5⟩
   ·simp only[List.length_append,List.length_singleton];omega
   ·simp only[List.length_append,List.length_singleton];omega
theorem VL (p:PS) (l:Bs) (h:ji p) (hp:p.phase=2) (hc:p.chunks=none) (hl:l.length<= p.left):ji (ku p l):=by
 have hb:=h.body;have h0:=h.st (by omega)
 have hlf:=h.len hp hc;have hph:(ku p l).phase=3\/ ((ku p l).phase=2/\ l.length<p.left):=by
  unfold ku;simp only;by_cases e:p.left=l.length
  ·rw[if_pos e];exact .inl rfl
  ·rw[if_neg e];exact .inr ⟨rfl,by omega⟩
 refine⟨by omega,h.hd,h.hl,fun h9=>absurd h9 (by omega),fun h9=>absurd h9 (by omega),h.ED,fun h9=>absurd h9 (by omega),?_,fun h9 _=> ?_,fun r hr=> ?_,fun h9=>absurd h9 (by omega),fun _=>h0⟩
 ·show(p.body++l).length+(p.left-l.length)<= 2048
  simp only[List.length_append];omega
 ·show 0<p.left-l.length
  omega
 ·have hr':p.chunks=some r:=hr
  rw[hc]at hr';cases hr'
theorem MB (p:PS) (r:CS) (n:Nat) (h:ji p) (hp:p.phase=2) (hr:lu r) (hb:p.body= []) (hf:p.left=0):ji (bU p r n):=by
 have h0:=h.st (by omega)
 have hrb:r.body.length<= 2048:=by have:=hr.body;omega
 have hph:2<=(bU p r n).phase/\ (bU p r n).phase<= 4/\ ((bU p r n).phase=2-> r.on=true)/\ ((bU p r n).phase<= 3-> r.status=0)/\ ((bU p r n).phase=2-> r.whole=false):=by
  unfold bU;simp only;by_cases e:r.status≠0
  ·rw[if_pos e];exact⟨by decide,by decide,fun h9=>absurd h9 (by decide),fun h9=>absurd h9 (by decide),fun h9=>absurd h9 (by decide)⟩
  ·rw[if_neg e]
   have e0:r.status=0:=by simpa using e
   cases hw:r.whole
   ·exact⟨by decide,by decide,fun _=>by simp[CS.on,hw,e0],fun _=>e0,fun _=>rfl⟩
   ·exact⟨by decide,by decide,fun h9=>absurd h9 (by decide),fun _=>e0,fun h9=>absurd h9 (by decide)⟩
 obtain⟨a1,a2,a3,a4,a5⟩:=hph;have hbody:(bU p r n).body.length<= 2048:=by
  show(if r.whole=true then r.body else p.body).length<= 2048
  split
  ·exact hrb
  ·rw[hb];exact Nat.zero_le _
 refine⟨a2,h.hd,h.hl,fun h9=>absurd h9 (by omega),fun h9=>absurd h9 (by omega),h.ED,fun h9=>absurd h9 (by omega),?_,fun _ h9=>(by cases h9),fun r' hr'=> ?_,fun h9=>absurd h9 (by omega),fun h9=> ?_⟩
 ·show(bU p r n).body.length+p.left<= 2048
  rw[hf];omega
 ·injection hr' with hr'
  subst hr';refine⟨hr,fun h9=>⟨a3 h9,?_,hf⟩⟩
  show(if r.whole=true then r.body else p.body)= []
  rw[a5 h9];exact hb
 ·show(if r.status≠0 then r.status else p.status)=0
  rw[a4 h9];simpa using h0
structure RQ where
 m:Bs
 t:Tgt
 v:Int
 f:List Fd
 b:Bs
 c:Bool
 e:Bool
deriving DecidableEq
def wE (p:PS):RQ:=⟨p.head.method,p.head.tgt,p.head.minor,p.head.bJ,p.body,p.head.how.close,p.head.how.expect⟩
theorem Below.drewN {B:Nat} {w w':World} (h:Below B w w') (n:Nat):Below B w (w'.drewN n):=⟨h.os,h.tape,h.output,h.size,h.block⟩
abbrev Mk (m k:Nat):Nat-> Prop:=fun x=>m<= x/\ x<m+k
def Jt (w:World) (t:Nat-> Nat) (m g:Nat) (v:Value) (first:Nat) (buf b:Bs):Prop:=
 BT w t m g 277 #[v,.int .i64 (first:Int),.int .i64 (b.length:Int)]/\ RT w t (m+1) 5 1 v 256 (buf.map bv)/\ buf.length=256/\ first<256/\ b.length<= 256/\ ∀i,i<b.length-> buf[(first+i) % 256]? = b[i]?
def jo (w:World) (t:Nat-> Nat) (m g:Nat) (b:Bs):Prop:= ∃v first buf,Jt w t m g v first buf b
theorem jo.keep {S:Nat-> Prop} {w w':World} {t t':Nat-> Nat} {m g:Nat} {b:Bs} (h:jo w t m g b) (st:Stp S w t w' t') (h0: ¬S m) (h1: ¬S (m+1)):jo w' t' m g b:=by
 obtain⟨v,f,u,a,c,r⟩:=h;exact⟨v,f,u,a.keep st h0,c.keep st h1,r⟩
theorem wG (w:World) (t:Nat-> Nat) (m g:Nat) (b:Bs) (h:jo w t m g b):
 Calls Tryz.prog 199 #[.pointer (some ⟨g,0,none⟩)] w fun e w'=>e= .returned (.int .i64 (b.length:Int))/\ w=w':=by
 obtain⟨v,f,u,hb,-⟩:=h;obtain⟨j0,j1,j2,-,-,-⟩:=hb.b.c3;go_enter Tryz.func199,Tryz.ntmps199
 go_wp2
 go_ret
 exact⟨rfl,rfl⟩
theorem Bl (w:World) (t:Nat-> Nat) (m g:Nat) (b:Bs) (h:jo w t m g b):
 Calls Tryz.prog 149 #[.pointer (some ⟨g,0,none⟩)] w fun e w'=>e= .returned (.int .i64 ((256-b.length:Nat):Int))/\ Below w.heap.size w w':=by
 obtain⟨v,f,u,hb,hr,hu,hf,hl,hc⟩:=h;obtain⟨A,c,rfl,hnc,hcm,-,-⟩:=hr.form;obtain⟨j0,j1,j2,-,-,-⟩:=hb.b.c3;have HR:=Lib.hid (show((256-b.length:Nat):Int)=256- (b.length:Int) by omega)
 go_enter Tryz.func149,Tryz.ntmps149
 go_wp2_with fail
 go_quiet (fail)
 go_wp2_with fail
 go_ret
 exact⟨by rw[HR.out];rfl,Below.drewN (Below.refl _ _) _⟩
theorem MC (w:World) (t:Nat-> Nat) (m g:Nat) (v:Value) (first:Nat) (buf b:Bs) (i:Nat) (h:Jt w t m g v first buf b) (hi:i<= 256):
 Calls Tryz.prog 196 #[.pointer (some ⟨g,0,none⟩),.int .i64 (i:Int)] w fun e w'=>e= .returned (.int .i64 (((first+i) % 256:Nat):Int))/\ Below w.heap.size w w':=by
 obtain⟨hb,hr,hu,hf,hl,hc⟩:=h;obtain⟨A,c,rfl,hnc,hcm,-,-⟩:=hr.form;obtain⟨j0,j1,j2,-,-,-⟩:=hb.b.c3;have HR:=Lib.hid (show(((first+i) % 256:Nat):Int)=((first:Int)+(i:Int)) % 256 by omega)
 go_enter Tryz.func196,Tryz.ntmps196
 go_wp2_with fail
 go_quiet (fail)
 go_wp2_with fail
 go_ret
 exact⟨by rw[HR.out];rfl,Below.drewN (Below.refl _ _) _⟩
theorem Jt.ah {w w':World} {t:Nat-> Nat} {m g:Nat} {v:Value} {f:Nat} {u b:Bs} (h:Jt w t m g v f u b) (hb:Below w.heap.size w w'):Jt w' t m g v f u b:=⟨h.1.ah hb,h.2.1.ah hb,h.2.2⟩
theorem VN (u:Bs) (first:Nat): ∀i,i< ([]:Bs).length-> u[(first+i) % 256]? =([]:Bs)[i]? := fun i h=>by simp at h
theorem YQ (w:World) (t:Nat-> Nat) (m:Nat):
 Calls Tryz.prog 241 #[.int .i64 256] w fun e w'=> ∃g t',e= .returned (.tuple #[.pointer (some ⟨g,0,none⟩),.int .i64 0])/\ w.heap.size<= g/\ jo w' t' m g []/\ Stp (fun _=>False) w t w' t':=by
 obtain⟨i0,hi,hz0,hz1,hz2⟩:=info_parts lT;go_enter Tryz.func241,Tryz.ntmps241
 go_wp2_with (at_make;refine wpList_make_full _ rfl _ _ 33 rfl w.heap.size 5 i0 (.int .u8 0) 1 Tryz.underlying33 hi hz0 hz1 .i64 .i64 _ _ 256 rfl rfl rfl rfl (by rw[hz2];omega) (by decide) (Nat.le_refl _) ?_;intro w1 hown hg)
 have ho:Own w1 w.heap.size 5 1 (.slice (some ⟨w.heap.size,0,none⟩) 256 256) 256 ((List.replicate 256 (0:UInt8)).map bv):=by
  have:=Own.of hown;rw[show(Value.int IntKind.u8 0).cells= #[Value.int .u8 0]from rfl,Nat.mul_one,toList_madeCells_one]at this
  rw[List.map_replicate];exact this
 have hb1:Below w.heap.size w w1:=(Below.refl _ _).grown hg (Nat.le_refl _) (by simp)
 have hr:=RT.Ik ho t (m+1);have s1:Stp (fun _=>False) w t w1 (upT t w (m+1)):=⟨(Fr.dB hb1).mono fun i hi=>.inr hi,fun _ hk=>iq hk⟩
 have s2:=Stp.alloc w1 (upT t w (m+1)) (fun _=>False) (.cells #[.slice (some ⟨w.heap.size,0,none⟩) 256 256,.int .i64 0,.int .i64 0] 277) m
 have hr2:=hr.keep s2 id;go_ret2
 exact⟨w1.heap.size,upT (upT t w (m+1)) w1 m,rfl,hb1.size,⟨_,0,List.replicate 256 0,BT.new _ _ _ _ _,hr2,by simp,by omega,by simp,VN _ _⟩,s1.trans s2 fun _ h=>h⟩
theorem VO (w:World) (t:Nat-> Nat) (m g:Nat) (b:Bs) (n:Nat) (h:jo w t m g b) (hn:n<= b.length):
 Calls Tryz.prog 250 #[.pointer (some ⟨g,0,none⟩),.int .i64 (n:Int)] w fun e w'=> ∃v,e= .returned v/\ OB w' w.heap.size v (b.take n)/\ Below w.heap.size w w':=by
 have hLen:=wG w t m g b h;obtain⟨v,first,u,h⟩:=h;have hAt:=fun w' i hb hi=>MC w' t m g v first u b i (h.ah (w':=w') hb) hi
 go_enter Tryz.func250,Tryz.ntmps250
 go_wp2_with fail
 refine hLen.mono ?_;rintro e w1 ⟨rfl,rfl⟩;have hmin:min (n:Int) (b.length:Int)=(n:Int):=by omega
 go_wp2_with fail
 go_loopw [5,11] (fun x i wr=> ∃(k:Nat) (acc:Bs),i= .int .i64 k/\ k<= n/\ Hid (b.take k=acc)/\ OB wr w.heap.size x acc/\ Below w.heap.size w wr) (fun _ i _=>n- (intOf i).toNat)
 case atStart=>exact⟨0,[],rfl,Nat.zero_le _,Lib.hid rfl,OB.nil _ _,Below.refl _ _⟩
 case round=>
  obtain⟨k,acc,rfl,hk,HA,ho,hL⟩:=hrel;have hal:acc.length<= 256:=by have:=h.2.2.2.2.1;rw[<- HA.out,List.length_take];omega
  obtain⟨Ab,cb,rfl,-,-,-⟩:=ho.form;by_cases hlt:k<n
  ·have hr2:=h.ah hL
   obtain⟨hbr,hrr,hu,hf,hl,hc⟩:=hr2;obtain⟨gr,off,cp,rfl,hgl,hm,hcell⟩:=hrr.at_ (by decide)
   obtain⟨j0,j1,j2,-,-,-⟩:=hbr.b.c3;obtain⟨c,hcb⟩: ∃c,b[k]? = some c:=⟨b[k],List.getElem?_eq_getElem (by omega)⟩
   have hp:(first+k) % 256<256:=by omega
   have hcl:wr.cell? ⟨gr,off+(first+k) % 256,none⟩=some (bv c):=by
    rw[(hcell ((first+k) % 256) (by omega)).1,List.getElem?_map,hc k (by omega),hcb];rfl
   have HB:=Lib.hid (show b.take (k+1)=acc++ [c] by rw[List.take_add_one,hcb,HA.out];rfl)
   clear HA;have hx:=fun w' hb=>hAt w' k hb (by omega)
   clear hAt;generalize (first+k) % 256=q at*;have hq2:(q:Int)<256:=by omega
   have hgg:=hbr.b.lt;go_wp2_with fail
   go_region_law (first
    | (go_simp;go_at_call 196;refine(hx _ hL.drew).mono ?_;rintro e w2 ⟨rfl,L2⟩;have hcl2:w2.cell? ⟨gr,off+q,none⟩=some (bv c):=(L2.cell (p:=⟨gr,off+q,none⟩) hgl).trans hcl;have j02:w2.cell? ⟨g,0,none⟩=some (.slice (some ⟨gr,off,none⟩) 256 cp):=(L2.cell (p:=⟨g,0,none⟩) hgg).trans j0;have L3:=stepW (Below.refl wr.heap.size wr).drew L2;have ho2:=ho.ah L3;have M2:=stepW hL L3)
    | (refine nG rfl (.tmp 14) (.tmp 24) rfl w.heap.size _ acc rfl ho2 (aj (Below.refl _ _) _) _ 1 1 (w2.heap.size+1) rfl [c] (Rd.new w2 _ rfl [bv c] _ 1 1 rfl) (by simp;omega) M2.size ?_;intro v' w3 ho3 hx3))
   all_goals
    go_wp2
    go_roundw
    case rel=>exact⟨k+1,acc++ [c],by go_num,hlt,HB,ho3,M2.trans (hx3.below ho2 (Nat.le_refl _) M2.size)⟩
    case measure=>simp[intOf];omega
  ·obtain rfl:k=n:=by omega
   go_wp2
   go_ret
   exact⟨_,rfl,by rw[HA.out];exact ho,hL⟩
theorem qQ (w:World) (t:Nat-> Nat) (m g:Nat) (b:Bs) (n:Nat) (h:jo w t m g b) (hn:n<= b.length):
 Calls Tryz.prog 248 #[.pointer (some ⟨g,0,none⟩),.int .i64 (n:Int)] w fun e w'=>e= .returned (.int .i64 (n:Int))/\ ∃t',jo w' t' m g (b.drop n)/\ Stp (Mk m 2) w t w' t':=by
 have hLen:=wG w t m g b h;obtain⟨v,first,u,h⟩:=h;have hAt:=fun w' i hb hi=>MC w' t m g v first u b i (h.ah (w':=w') hb) hi
 have hbl:=h.2.2.2.2.1;have hmin:min (n:Int) (b.length:Int)=(n:Int):=by omega
 have hmax:max (0:Int) (n:Int)=(n:Int):=by omega
 go_enter Tryz.func248,Tryz.ntmps248
 go_wp2_with fail
 refine hLen.mono ?_;rintro e w1 ⟨rfl,rfl⟩;by_cases h0:0<n
 ·have d0:decide (0<n)=true:=by simpa using h0
  obtain⟨hbr,hrr,hu,hf,hl,hc⟩:=h;have hx:=fun w' hb=>hAt w' n hb (by omega)
  have hdl:(b.drop n).length=b.length-n:=List.length_drop;have HC: ∀i,i< (b.drop n).length-> u[((first+n) % 256+i) % 256]? =(b.drop n)[i]? := fun i hi=>by
   have h1:(((first+n) % 256+i) % 256)=(first+(n+i)) % 256:=by omega
   rw[h1,hc (n+i) (by omega),List.getElem?_drop]
  have hq:(first+n) % 256<256:=by omega
  clear hAt hc;generalize (first+n) % 256=q at*;obtain⟨j0,j1,j2,i0,i1,i2⟩:=hbr.b.c3;have hgg:=hbr.b.lt;have hwr:IntKind.i64.wrap ((b.length:Int)- (n:Int))=(b.length:Int)- (n:Int):=IntWalk.i64_in _ ⟨by omega,by omega⟩
  go_wp2_with fail
  go_region_with (go_at_call 196;refine(hx _ (Below.refl _ _).drew).mono ?_;rintro e w2 ⟨rfl,L2⟩;have L3:=stepW (Below.refl w.heap.size w).drew L2;have hb2:=hbr.ah L3;obtain⟨k0,k1,k2,m0,m1,m2⟩:=hb2.b.c3)
  all_goals
   go_wp2_with fail
   go_ret
   have s1:=Stp.setCell (S:=fun x=>x=m) hb2 rfl 1 (.int .i64 (q:Int))
   have s2:=Stp.setCell (S:=fun x=>x=m) (hb2.ay 1 (.int .i64 (q:Int))) rfl 2 (.int .i64 ((b.length:Int)- (n:Int)))
   have hb3:=(hb2.ay 1 (.int .i64 (q:Int))).ay 2 (.int .i64 ((b.length:Int)- (n:Int)));have hr3:=((hrr.ah L3).keep s1 (by omega)).keep s2 (by omega)
   exact⟨rfl,t,⟨v,q,u,hb3.to (by rw[hdl,show((b.length-n:Nat):Int)=(b.length:Int)- (n:Int) by omega];rfl),hr3,hu,hq,by omega,HC⟩,((Stp.below L3 _ t).trans s1 fun x (h:x=m)=>(show m<= x/\ x<m+2 by omega)).trans s2 fun x (h:x=m)=>(show m<= x/\ x<m+2 by omega)⟩
 ·obtain rfl:n=0:=by omega
  go_wp2_with fail
  go_ret
  exact⟨rfl,t,⟨v,first,u,h⟩,Stp.refl _ _ _⟩
theorem VP (u b:Bs) (first:Nat) (c:UInt8) (hu:u.length=256) (hb:b.length<256) (hc: ∀i,i<b.length-> u[(first+i) % 256]? = b[i]?):
 ∀i,i< (b++ [c]).length->(u.set ((first+b.length) % 256) c)[(first+i) % 256]? =(b++ [c])[i]? := by
 intro i hi;rw[List.length_append,List.length_singleton]at hi;rw[List.getElem?_set];by_cases he:i=b.length
 ·subst he
  rw[if_pos rfl,if_pos (by omega)]
  simp
 ·rw[if_neg (by omega),hc i (by omega),List.getElem?_append_left (by omega)]
theorem RT.VQ {w:World} {t:Nat-> Nat} {τ:Nat} {e:TypeId} {g off n cap:Nat} {xs:List Value} (h:RT w t τ e 1 (.slice (some ⟨g,off,none⟩) n cap) n xs) (q:Nat) (hq:q<n):w.cell? ⟨g,off+q,none⟩=xs[q]? /\ w.frozen? ⟨g,off+q,none⟩=false:=by
 obtain⟨g',off',cap',e,-,-,hc⟩:=h.at_ (by omega)
 injection e with e1 _ e2
 injection e1 with e1
 injection e1 with e3 e4
 subst e3 e4;exact hc q (by omega)
end Go.Proofs.YtdmondfpepbniaaGreatDoor
