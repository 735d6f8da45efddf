/- Part 21 of the proof: Vs Vg Vu RgG RHw VgB. -/
import Derived.Deep.CutBlock
import Derived.Test.YtdmondfpepbniaaGreatDoorQ11
import Derived.Test.YtdmondfpepbniaaGreatDoorQ12
import Derived.Test.YtdmondfpepbniaaGreatDoorQ13
import Derived.Test.YtdmondfpepbniaaGreatDoorQ18
namespace Go.Proofs.YtdmondfpepbniaaGreatDoor
open Go.RowKit
set_option maxRecDepth 100000
set_option maxHeartbeats 4000000
set_option linter.all false
abbrev hnV (h:Hn):Value:=.agg #[.int .i64 (h.1:Int),.int .i64 (h.2:Int)]
def BF (x:fG):List Value:= [.int .i64 (x.gen:Int),.bool x.used,.int .i64 x.v]
def bZ (l:List fG):List Value:=l.flatMap BF
theorem MI (l m:List fG):bZ (l++m)=bZ l++bZ m:=by simp[bZ]
theorem EI: ∀(l:List fG) (k:Nat) (x:fG),l[k]? = some x->(bZ l)[k*3]? = some (.int .i64 (x.gen:Int))/\ (bZ l)[k*3+1]? = some (.bool x.used)/\ (bZ l)[k*3+2]? = some (.int .i64 x.v)
 | [],k,x,h=>by simp at h
 |y::l,0,x,h=>by
  obtain rfl:y=x:=by simpa using h
  simp[bZ,BF]
 |y::l,k+1,x,h=>by
  have:=EI l k x (by simpa using h)
  rw[show(k+1)*3=k*3+3 by omega]
  simpa [bZ,BF] using this
theorem BG: ∀(l:List fG) (k:Nat) (x:fG),k<l.length-> bZ (l.set k x)=(((bZ l).set (k*3) (.int .i64 (x.gen:Int))).set (k*3+1) (.bool x.used)).set (k*3+2) (.int .i64 x.v)
 | [],k,x,h=>by simp at h
 |y::l,0,x,h=>by simp[bZ,BF]
 |y::l,k+1,x,h=>by
  have:=BG l k x (by simpa using h)
  rw[show(k+1)*3=k*3+3 by omega]
  simp only[bZ]at this;simp[bZ,BF,this]
def jT (w:World) (t:Nat-> Nat) (m g:Nat) (s:iU):Prop:= ∃v,BT w t m g 232 #[.int .i64 (s.limit:Int),v,.int .i64 (s.len:Int)]/\ RT w t (m+1) 229 3 v s.slots.length (bZ s.slots)
theorem jT.keep {S:Nat-> Prop} {w w':World} {t t':Nat-> Nat} {m g:Nat} {s:iU} (h:jT w t m g s) (st:Stp S w t w' t') (h0: ¬S m) (h1: ¬S (m+1)):jT w' t' m g s:=by
 obtain⟨v,a,b⟩:=h;exact⟨v,a.keep st h0,b.keep st h1⟩
abbrev jf (m:Nat):Nat-> Prop:=fun x=>m<= x/\ x<m+5
theorem RT.slot {w:World} {t:Nat-> Nat} {τ n:Nat} {v:Value} {l:List fG} (h:RT w t τ 229 3 v n (bZ l)) (hn:l.length=n) (k:Nat) (x:fG) (hx:l[k]? = some x):
 ∃g off cap,v= .slice (some ⟨g,off,none⟩) n cap/\ t g=τ/\ n<= cap/\ cap<= maxLen/\ w.cell? ⟨g,off+k*3,none⟩=some (.int .i64 (x.gen:Int))/\ w.cell? ⟨g,off+k*3+1,none⟩=some (.bool x.used)/\ w.cell? ⟨g,off+k*3+2,none⟩=some (.int .i64 x.v)/\
  w.frozen? ⟨g,off+k*3,none⟩=false/\ w.frozen? ⟨g,off+k*3+1,none⟩=false/\ w.frozen? ⟨g,off+k*3+2,none⟩=false:=by
 have hk:k<n:=by rw[<- hn];exact(List.getElem?_eq_some_iff.1 hx).1
 obtain⟨A,c,e,hnc,hcm,-,-⟩:=h.form;obtain⟨g,off,cap,e2,-,hm,hc⟩:=h.at_ (by omega)
 rw[e2]at e;injection e with e3 _ e4
 obtain⟨a1,a2,a3⟩:=EI l k x hx;refine⟨g,off,cap,e2,hm,by omega,by omega,(hc (k*3) (by omega)).1.trans a1,?_,?_,(hc (k*3) (by omega)).2,?_,?_⟩
 ·rw[Nat.add_assoc];exact(hc (k*3+1) (by omega)).1.trans a2
 ·rw[Nat.add_assoc];exact(hc (k*3+2) (by omega)).1.trans a3
 ·rw[Nat.add_assoc];exact(hc (k*3+1) (by omega)).2
 ·rw[Nat.add_assoc];exact(hc (k*3+2) (by omega)).2
theorem RT.wJ {S:Nat-> Prop} {w:World} {t:Nat-> Nat} {τ n g off cap:Nat} {l:List fG} (h:RT w t τ 229 3 (.slice (some ⟨g,off,none⟩) n cap) n (bZ l)) (hS:S τ) (k:Nat) (hk:k<n) (hn:l.length=n) (x:fG):
 RT (((w.setCell ⟨g,off+k*3,none⟩ (.int .i64 (x.gen:Int))).setCell ⟨g,off+k*3+1,none⟩ (.bool x.used)).setCell ⟨g,off+k*3+2,none⟩ (.int .i64 x.v)) t τ 229 3 (.slice (some ⟨g,off,none⟩) n cap) n (bZ (l.set k x))/\
 Stp S w t (((w.setCell ⟨g,off+k*3,none⟩ (.int .i64 (x.gen:Int))).setCell ⟨g,off+k*3+1,none⟩ (.bool x.used)).setCell ⟨g,off+k*3+2,none⟩ (.int .i64 x.v)) t:=by
 obtain⟨h1,s1⟩:=h.stored hS (k*3) (by omega) (.int .i64 (x.gen:Int))
 obtain⟨h2,s2⟩:=h1.stored hS (k*3+1) (by omega) (.bool x.used)
 obtain⟨h3,s3⟩:=h2.stored hS (k*3+2) (by omega) (.int .i64 x.v)
 rw[<- Nat.add_assoc]at h2 s2 h3 s3;rw[<- Nat.add_assoc]at h3 s3;rw[BG _ _ _ (by omega)]
 exact⟨h3,(s1.trans s2 fun _ h=>h).trans s3 fun _ h=>h⟩
theorem Oj (n:Nat) (w:World) (t:Nat-> Nat) (m:Nat) (h0:1<= n) (h1:n<= 4096):
 Calls Tryz.prog 114 #[.int .i64 (n:Int)] w fun e w'=>e= .returned (.tuple #[.pointer (some ⟨w.heap.size,0,none⟩),.int .i64 0])/\ ∃t',jT w' t' m w.heap.size ⟨n,[],0⟩/\ Stp (jf m) w t w' t':=by
 have c0: ¬(n:Int)<1:=by omega
 have c1: ¬4096< (n:Int):=by omega
 go_enter Tryz.func114,Tryz.ntmps114
 go_wp2_with fail
 go_ret2
 exact⟨rfl,upT t w m,⟨_,BT.new w t m _ _,RT.nil _ _ _ _ _⟩,Stp.alloc w t _ _ m⟩
def AtP (w:World) (t:Nat-> Nat) (m gs:Nat) (s:iU) (h:Hn) (e:Ending):Prop:=
 if oN s h then∃g off cap x,s.slots[h.1]? = some x/\ RT w t (m+1) 229 3 (.slice (some ⟨g,off,none⟩) s.slots.length cap) s.slots.length (bZ s.slots)/\ w.cell? ⟨gs,1,none⟩=some (.slice (some ⟨g,off,none⟩) s.slots.length cap)/\ e= .returned (.pointer (some ⟨g,off+h.1*3,none⟩))else e= .returned (.pointer none)
theorem aaD (w:World) (t:Nat-> Nat) (m g:Nat) (s:iU) (h:Hn) (hK:jT w t m g s):
 Calls Tryz.prog 140 #[.pointer (some ⟨g,0,none⟩),hnV h] w fun e w'=>AtP w t m g s h e/\ Below w.heap.size w w':=by
 obtain⟨i,gn⟩:=h;obtain⟨v,hb,hr⟩:=hK;obtain⟨A,c,rfl,hnc,hcm,-,-⟩:=hr.form;have hc1:w.cell? ⟨g,1,none⟩=some (.slice A s.slots.length c):=hb.b.cell 1;have c0:decide ((i:Int)<0)=false:=by simp
 go_enter Tryz.func140,Tryz.ntmps140
 go_upto_region 1 with(fail)
 obtain⟨V,hV⟩: ∃V,V=w.alloc (.cells #[.int .i64 (i:Int),.int .i64 (gn:Int)] 72):=⟨_,rfl⟩;rw[<- hV];have LV:Below w.heap.size w V:=by rw[hV];exact aj (Below.refl _ _) _
 have BV:Blk V w.heap.size 72 #[.int .i64 (i:Int),.int .i64 (gn:Int)]:=by rw[hV];exact Blk.new' _ _ rfl _ _
 clear hV;obtain⟨x0,x1,-,-⟩:=BV.c2;have j1:=(hb.b.ah LV).cell 1;have j1:V.cell? ⟨g,1,none⟩=some (.slice A s.slots.length c):=j1;rcases hx:s.slots[i]? with _|x
 ·have HA:AtP w t m g s (i,gn) (.returned (.pointer none)):=by
   rw[AtP,if_neg (by simp[oN,hx])]
  have hil:s.slots.length<= i:=by simpa using hx
  have c1:decide ((s.slots.length:Int)<=(i:Int))=true:=by simp;omega
  go_quiet (fail)
  go_wp2_with fail
  go_ret
  exact⟨HA,(Below.drewN LV _)⟩
 ·obtain⟨gr,off,cp,hv,hm,-,-,y0,y1,y2,-,-,-⟩:=(hr.keep (Stp.dB (t:=t) LV (fun _=>False) 0) id).slot rfl i x hx
  have hil:i<s.slots.length:=(List.getElem?_eq_some_iff.1 hx).1;have c1:decide ((s.slots.length:Int)<=(i:Int))=false:=by simp;omega
  have c2:(i:Int)< (s.slots.length:Int):=by omega
  injection hv with hv1 _ hv2
  subst hv1;subst hv2;clear hb hm;cases hu:x.used
  ·have HA:AtP w t m g s (i,gn) (.returned (.pointer none)):=by
    rw[AtP,if_neg (by simp[oN,hx,hu])]
   rw[hu]at y1;go_quiet (fail)
   go_wp2_with fail
   go_quiet (fail)
   go_wp2_with fail
   go_quiet (fail)
   go_wp2_with fail
   go_ret
   exact⟨HA,Below.drewN (Below.drewN (Below.drewN LV _) _) _⟩
  ·rw[hu]at y1
   by_cases hg:x.gen=gn
   ·subst hg
    have HA:AtP w t m g s (i,x.gen) (.returned (.pointer (some ⟨gr,off+i*3,none⟩))):=by
     rw[AtP,if_pos (by simp[oN,hx,hu])]
     exact⟨gr,off,c,x,hx,hr,hc1,rfl⟩
    go_quiet (fail)
    go_wp2_with fail
    go_quiet (fail)
    go_wp2_with fail
    go_quiet (fail)
    go_wp2_with fail
    go_ret
    exact⟨HA,Below.drewN (Below.drewN (Below.drewN LV _) _) _⟩
   ·have c3:((x.gen:Int)==(gn:Int))=false:=by simp;omega
    have HA:AtP w t m g s (i,gn) (.returned (.pointer none)):=by
     rw[AtP,if_neg (by simp[oN,hx,hg])]
    go_quiet (fail)
    go_wp2_with fail
    go_quiet (fail)
    go_wp2_with fail
    go_quiet (fail)
    go_wp2_with fail
    go_ret
    exact⟨HA,Below.drewN (Below.drewN (Below.drewN LV _) _) _⟩
abbrev nV (n:Nat):Value:=.int .i64 (n:Int)
def nOk (n:Nat):Prop:=n<= 1000000000000
theorem BH:MK Tryz.prog 3 nV nOk:=
 ⟨Go.Maps.int_keyed Tryz.underlying3,fun a ha=>⟨.int .i64 (a:Int),Go.Maps.keyOf_int_mk Tryz.underlying3 (by have:a<= 1000000000000:=ha;rw[Lit.wf,Bool.and_eq_true,decide_eq_true_eq,decide_eq_true_eq];constructor<;>simp[IntKind.min,IntKind.max,IntKind.signed,IntKind.bits]<;>omega)⟩,fun a b _ _ h=>by injection h with _ h;omega⟩
abbrev cfC (c:Cf) (tv:Value):List Value:= [nV c.jE,nV c.jF,nV c.pipe,nV c.jg,nV c.idle,nV c.head,nV c.body,nV c.write,nV c.bC,nV c.jR,nV c.gJ,nV c.base,nV c.cap,.bool c.refuse,.bool c.dV,tv]
def yQ (c:Cf) (tv:Value) (b:Nat) (s:iW):Array Value:=(cfC c tv++ [.map (some b),nV s.all,nV s.failures,nV s.delay,nV s.till,.bool s.stopped]).toArray
structure nS (w:World) (t:Nat-> Nat) (m g:Nat) (c:Cf) (tv:Value) (s:iW):Prop where
 k: ∃b,BT w t m g 173 (yQ c tv b s)/\ MT w t (m+1) b nV nOk nV s.inn
theorem nS.keep {S:Nat-> Prop} {w w':World} {t t':Nat-> Nat} {m g:Nat} {c:Cf} {tv:Value} {s:iW} (h:nS w t m g c tv s) (st:Stp S w t w' t') (h0: ¬S m) (h1: ¬S (m+1)):nS w' t' m g c tv s:=by
 obtain⟨b,a,c⟩:=h.k;exact⟨b,a.keep st h0,c.keep st h1⟩
theorem QB (w:World) (n q:Nat):(w.drewN n).drewN q=w.drewN (n+q):=by
 simp[World.drewN,Nat.add_assoc]
theorem zn {P:Program} {f:FuncId} {args:Array Value} {w:World} {n:Nat} {v:Value}
 (h:Calls P f args (w.drewN n) fun e w'=>e= .returned v/\ ∃q,w'=(w.drewN n).drewN q):Calls P f args (w.drewN n) fun e w''=>e= .returned v/\ ∃m,w''=w.drewN m:=
 h.mono fun _ _ ⟨he,q,hm⟩=>⟨he,n+q,by rw[hm,QB]⟩
theorem Jv (w:World) (t:Nat-> Nat) (m g:Nat) (c:Cf) (tv:Value) (s:iW) (h:nS w t m g c tv s):
 Calls Tryz.prog 85 #[.pointer (some ⟨g,0,none⟩)] w fun e w'=>e= .returned (.bool (vX c s))/\ ∃q,w'=w.drewN q:=by
 obtain⟨b,hb,hm⟩:=h.k;have j0:w.cell? ⟨g,0,none⟩=some (nV c.jE):=hb.b.cell 0;have j17:w.cell? ⟨g,17,none⟩=some (nV s.all):=hb.b.cell 17;have HR:=Lib.hid (show vX c s=decide (c.jE<= s.all)from rfl)
 go_enter Tryz.func85,Tryz.ntmps85
 go_wp2_with fail
 go_quiet (fail)
 go_wp2_with fail
 go_ret
 exact⟨by rw[HR.out];rfl,_,rfl⟩
theorem GX (w:World) (t:Nat-> Nat) (m g:Nat) (c:Cf) (tv:Value) (s:iW) (now:Nat) (h:nS w t m g c tv s):
 Calls Tryz.prog 45 #[.pointer (some ⟨g,0,none⟩),nV now] w fun e w'=>e= .returned (.bool (Dl c s now))/\ Below w.heap.size w w':=by
 have hF:=Jv w t m g c tv s h;obtain⟨b,hb,hm⟩:=h.k;have j13:w.cell? ⟨g,13,none⟩=some (.bool c.refuse):=hb.b.cell 13;have j14:w.cell? ⟨g,14,none⟩=some (.bool c.dV):=hb.b.cell 14;have j20:w.cell? ⟨g,20,none⟩=some (nV s.till):=hb.b.cell 20;have j21:w.cell? ⟨g,21,none⟩=some (.bool s.stopped):=hb.b.cell 21;have HR:=Lib.hid (show Dl c s now=(!s.stopped&& (decide (s.till<= now)&& (!vX c s|| (c.refuse||c.dV))))from rfl)
 have hlt:=hb.lt;generalize Dl c s now=r at*;generalize hd:decide (s.till<= now)=d at*;generalize vX c s=f at*;generalize c.refuse=rf at*;generalize c.dV=ev at*;generalize s.stopped=sp at*;clear hb hm;cases sp
 ·cases d
  ·go_enter Tryz.func45,Tryz.ntmps45
   go_wp2_with fail
   go_ret
   exact⟨by rw[HR.out];rfl,Below.refl _ _⟩
  ·go_enter Tryz.func45,Tryz.ntmps45
   go_wp2_with fail
   refine hF.mono ?_;rintro e w1 ⟨rfl,q1,rfl⟩;have L1:Below w.heap.size w (w.drewN q1):=Below.drewN (Below.refl _ _) _;cases f
   ·go_wp2_with fail
    go_ret
    exact⟨by rw[HR.out];rfl,L1⟩
   ·have K13:=(L1.cell (p:=⟨g,13,none⟩) hlt).trans j13
    have K14:=(L1.cell (p:=⟨g,14,none⟩) hlt).trans j14;cases rf
    ·cases ev
     ·go_wp2_with fail
      go_ret
      exact⟨by rw[HR.out];rfl,L1⟩
     ·go_wp2_with fail
      go_ret
      exact⟨by rw[HR.out];rfl,L1⟩
    ·go_wp2_with fail
     go_ret
     exact⟨by rw[HR.out];rfl,L1⟩
 ·go_enter Tryz.func45,Tryz.ntmps45
  go_wp2_with fail
  go_ret
  exact⟨by rw[HR.out];rfl,Below.refl _ _⟩
abbrev pcC (x:Nat×Nat):List Value:= [nV x.1,nV x.2]
def lJ (l:List (Nat×Nat)):List Value:=l.flatMap pcC
theorem V5 (l m:List (Nat×Nat)):lJ (l++m)=lJ l++lJ m:=by simp[lJ]
def yc (w:World) (t:Nat-> Nat) (m g:Nat) (q:xU):Prop:= ∃vb vp,BT w t m g 222 #[vb,vp,nV q.last]/\ RT w t (m+1) 5 1 vb q.b.length (q.b.map bv)/\ RT w t (m+2) 268 2 vp q.pcs.length (lJ q.pcs)
theorem yc.keep {S:Nat-> Prop} {w w':World} {t t':Nat-> Nat} {m g:Nat} {q:xU} (h:yc w t m g q) (st:Stp S w t w' t') (h0: ¬S m) (h1: ¬S (m+1)) (h2: ¬S (m+2)):yc w' t' m g q:=by
 obtain⟨vb,vp,a,b,c⟩:=h;exact⟨vb,vp,a.keep st h0,b.keep st h1,c.keep st h2⟩
theorem rQ (w:World) (t:Nat-> Nat) (m g:Nat) (q:xU) (h:yc w t m g q):
 Calls Tryz.prog 74 #[.pointer (some ⟨g,0,none⟩)] w fun e w'=>e= .returned (nV q.b.length)/\ w=w':=by
 obtain⟨vb,vp,hb,hr,hp⟩:=h;obtain⟨A,c,rfl,hnc,hcm,-,-⟩:=hr.form;obtain⟨j0,j1,j2,-,-,-⟩:=hb.b.c3;go_enter Tryz.func74,Tryz.ntmps74
 go_wp2
 go_ret
 exact⟨rfl,rfl⟩
theorem Ol (w:World) (t:Nat-> Nat) (m:Nat):
 Calls Tryz.prog 280 #[] w fun e w'=> ∃g t',e= .returned (.pointer (some ⟨g,0,none⟩))/\ w.heap.size<= g/\ yc w' t' m g ⟨[],[],0⟩/\ Stp (fun _=>False) w t w' t':=by
 go_enter Tryz.func280,Tryz.ntmps280
 go_wp2_with fail
 go_ret
 exact⟨w.heap.size,upT t w m,rfl,Nat.le_refl _,⟨_,_,BT.new _ _ _ _ _,RT.nil _ _ _ _ _,RT.nil _ _ _ _ _⟩,Stp.alloc _ _ _ _ _⟩
theorem YW (w:World) (t:Nat-> Nat) (m g:Nat) (q:xU) (x:Bs) (h:yc w t m g q) (A2:Option Addr) (c2:Nat) (A:Option Addr) (c:Nat) (hx:x.length<= 1000000) (hq:q.b.length<= 1000000) (hp:q.pcs.length<= 1000000) (hl:q.last<= 1000000)
 (h2: ∃y o,A2=some ⟨y,o,none⟩/\ w.cell? ⟨y,o,none⟩=some (.slice A x.length c)) (hr:Rd w w.heap.size 1 A x.length (x.map bv)):
 Calls Tryz.prog 231 #[.pointer (some ⟨g,0,none⟩),.slice A2 1 c2] w fun e w'=>e= .returned (nV (q.last+1))/\ ∃t',yc w' t' m g (oO q x)/\ Stp (Mk m 3) w t w' t':=by
 obtain⟨vb,vp,hb,hrb,hrp⟩:=h;obtain⟨y2,o2,rfl,hy2⟩:=h2;obtain⟨Ab,cb,rfl,-,-,-,-⟩:=hrb.form;obtain⟨Ap,cp,rfl,-,-,-,-⟩:=hrp.form;obtain⟨j0,j1,j2,i0,i1,i2⟩:=hb.b.c3;go_enter Tryz.func231,Tryz.ntmps231
 go_wp2_with fail
 go_loopw [17] (fun i wr=>(i= .int .i64 0/\ w=wr)\/ (i= .int .i64 1/\ ∃t' vb',BT wr t' m g 222 #[vb',.slice Ap q.pcs.length cp,nV q.last]/\ RT wr t' (m+1) 5 1 vb' (q.b.length+x.length) ((q.b++x).map bv)/\ RT wr t' (m+2) 268 2 (.slice Ap q.pcs.length cp) q.pcs.length (lJ q.pcs)/\ Stp (Mk m 3) w t wr t')) (fun i _=>1- (intOf i).toNat)
 case atStart=>exact .inl ⟨rfl,rfl⟩
 case round=>
  rcases hrel with⟨rfl,rfl⟩| ⟨rfl,t1,vb1,hb1,hrb1,hrp1,S1⟩
  ·go_wp2_with (at_builtin;go_must (refine xw rfl _ _ 33 33 rfl 5 (.int .u8 0) 1 1 Tryz.underlying33 (.inl Tryz.underlying33) lT rfl t (m+1) (.slice Ab q.b.length cb) q.b.length (q.b.map bv) rfl hrb _ x.length (x.map bv) rfl (Src.fB hr (uD x)) (by omega) ?_;intro v' w2 t2 hr2 hs2;obtain⟨A',c',rfl,-,-,-,-⟩:=hr2.form;have hb2:=hb.keep (hs2 (fun x=>x=m+1) rfl) (by omega);have j0':w2.cell? ⟨g,0,none⟩=some (.slice Ab q.b.length cb):=hb2.b.cell 0;have i0':w2.frozen? ⟨g,0,none⟩=false:=hb2.b.frozen 0))
   go_roundw
   case rel=>
    obtain⟨hb3,s3⟩:=hb2.aH 0 (.slice A' (q.b.length+x.length) c');have hrp3:=(hrp.keep (hs2 (fun x=>x=m+1) rfl) (by omega)).keep s3 (by omega)
    exact .inr ⟨rfl,t2,.slice A' (q.b.length+x.length) c',hb3.to (by simp),by rw[List.map_append];exact hr2.keep s3 (by omega),hrp3,(hs2 (Mk m 3) (by omega)).trans s3 fun x (h:x=m)=>(show m<= x/\ x<m+3 by omega)⟩
   case measure=>simp[intOf]
  ·obtain⟨A1,c1,rfl,-,-,-,-⟩:=hrb1.form
   clear j0 j1 j2 i0 i1 i2;obtain⟨j0,j1,j2,i0,i1,i2⟩:=hb1.b.c3;go_upto_region 10 with(fail)
   obtain⟨hb2,s2⟩:=hb1.aH 2 (.int .i64 ((q.last:Int)+1));obtain⟨V,hV⟩: ∃V,V=wr.setCell ⟨g,2,none⟩ (.int .i64 ((q.last:Int)+1)):=⟨_,rfl⟩;rw[<- hV]at hb2 s2⊢;have hrb2:=hrb1.keep s2 (by omega)
   have hrp2:=hrp1.keep s2 (by omega)
   clear hV j0 j1 j2 i0 i1 i2;obtain⟨j0,j1,j2,i0,i1,i2⟩:=hb2.b.c3;have hgV:=hb2.b.lt;have hwr:IntKind.i64.wrap ((q.b.length:Int)+(x.length:Int)- (q.b.length:Int))=(x.length:Int):=by rw[show((q.b.length:Int)+(x.length:Int)- (q.b.length:Int))=(x.length:Int) by omega];exact IntWalk.i64_in _ ⟨by omega,by omega⟩
   go_region_law (first
    | (refine mV rfl (.tmp 42) (.tmp 55) 220 rfl 268 (.agg #[.int .i64 0,.int .i64 0]) 2 16 Tryz.underlying220 (by kernel_rfl) rfl t1 (m+2) (.slice Ap q.pcs.length cp) q.pcs.length (lJ q.pcs) rfl hrp2 _ _ rfl rfl rfl (by intro u hu;simp at hu;rcases hu with rfl|rfl<;>rfl) (by omega) ?_;intro v' w3 t3 hr3 hs3;obtain⟨A3,c3,rfl,-,-,-,-⟩:=hr3.form;have hb3:=hb2.keep (hs3 (fun x=>x=m+2) rfl) (by omega);obtain⟨k0,k1,k2,z0,z1,z2⟩:=hb3.b.c3)
    | (refine kQ rfl (.tmp 42) (.tmp 55) 220 rfl 268 (.agg #[.int .i64 0,.int .i64 0]) 2 16 Tryz.underlying220 (by kernel_rfl) rfl t1 (m+2) (.slice Ap q.pcs.length cp) q.pcs.length (lJ q.pcs) rfl hrp2 [nV (q.last+1),nV x.length] _ rfl rfl rfl (by intro u hu;simp at hu;rcases hu with rfl|rfl<;>rfl) (by omega) ?_;intro v' w3 t3 hr3 hs3;obtain⟨A3,c3,rfl,-,-,-,-⟩:=hr3.form;have hb3:=hb2.keep (hs3 (fun x=>x=m+2) rfl) (by omega);obtain⟨k0,k1,k2,z0,z1,z2⟩:=hb3.b.c3))
   all_goals
    go_wp2_with fail
    go_ret
    obtain⟨hb4,s4⟩:=hb3.aH 1 (.slice A3 (q.pcs.length+1) c3);have hrb4:=(hrb2.keep (hs3 (fun x=>x=m+2) rfl) (by omega)).keep s4 (by omega)
    have hrp4:=hr3.keep s4 (by omega)
    exact⟨rfl,t3,⟨.slice A1 (q.b.length+x.length) c1,.slice A3 (q.pcs.length+1) c3,hb4.to (by simp[oO]),by simp only[oO,List.length_append];exact hrb4,by simp only[oO,List.length_append,List.length_singleton,V5];exact hrp4⟩,(((S1.trans s2 fun x (h:x=m)=>(show m<= x/\ x<m+3 by omega)).trans (hs3 (Mk m 3) (by omega)) fun _ h=>h).trans s4 fun x (h:x=m)=>(show m<= x/\ x<m+3 by omega))⟩
theorem iI {w:World} {B n:Nat} {A:Option Addr} {l:Bs} (c lo:Nat) (hr:Rd w B 1 A n (l.map bv)) (hlo:lo<= n) (hc:n<= c):
 ∃A' c',n-lo<= c'/\ (∀w:World,(Instr.sliceAt 33 (.slice A n c) (some (.int .i64 (lo:Int))) none none).run Tryz.prog w= .ok (.slice A' (n-lo) c') w)/\ Rd w B 1 A' (n-lo) ((l.drop lo).map bv):=by
 have hu:Tryz.prog.underlying 33=some (.slice (Tryz.prog.elem 33)):=by kernel_rfl
 have hz: ∀w:World,(sizeOf (Tryz.prog.elem 33)).run Tryz.prog w= .ok 1 w:=fun w=>by kernel_rfl
 refine⟨if c=lo then A else A.map (·.add (lo*1)),c-lo,by omega,fun w=> ?_,?_⟩
 ·rw[run_sliceAt_slice w 33 _ _ _ _ hu,run_slice_l w 33 A n c hu .i64 lo (by omega) (by omega),hz]
  simp[Result.andThen,sliced]
 ·split
  ·have h0:n-lo=0:=by omega
   have h1:l.length=n:=by simpa using hr.1
   rw[h0,List.drop_eq_nil_of_le (by omega)]
   exact Rd.nil _ _ _ _
  ·have h1:=(hr.cutFrom (k:=lo) (by omega))
   rw[Nat.mul_one]at h1;rw[List.map_drop];rw[Nat.mul_one];exact h1
theorem zo {w:World} {B n:Nat} {A:Option Addr} {l:Bs} (c hi:Nat) (hr:Rd w B 1 A n (l.map bv)) (hhi:hi<= n) (hc:n<= c):
 ∃A' c',hi<= c'/\ (∀w:World,(Instr.sliceAt 33 (.slice A n c) none (some (.int .i64 (hi:Int))) none).run Tryz.prog w= .ok (.slice A' hi c') w)/\ Rd w B 1 A' hi ((l.take hi).map bv):=by
 have hu:Tryz.prog.underlying 33=some (.slice (Tryz.prog.elem 33)):=by kernel_rfl
 have hz: ∀w:World,(sizeOf (Tryz.prog.elem 33)).run Tryz.prog w= .ok 1 w:=fun w=>by kernel_rfl
 refine⟨A,c,by omega,fun w=> ?_,?_⟩
 ·rw[run_sliceAt_slice w 33 _ _ _ _ hu,run_slice_h w 33 A n c hu .i64 hi (by omega) (by omega),hz]
  cases A<;>simp[Result.andThen,sliced,Addr.add]
 ·have h1:=(hr.zI (k:=hi) (by omega))
  rw[Nat.mul_one]at h1;rw[List.map_take];exact h1
theorem Ext.fresh {w w':World} {o:Obj} {n c:Nat} {v':Value} (h:Ext (w.alloc o) w' (.slice (some ⟨w.heap.size,0,none⟩) n c) v'):Ext w w' (.slice none 0 0) v':=by
 refine⟨Fr.trans (Fr.mono (T:=fun k=>(Value.slice none 0 0).ownBlock=some k) (Fr.dB (aj (Below.refl _ _) o)) (fun i hi=>.inr hi)) h.fr (fun i hi=>.inr ?_),fun k hk=>.inr ?_⟩
 ·simp[Value.ownBlock]at hi
  omega
 ·rcases h.own k hk with h1|h1
  ·simp[Value.ownBlock]at h1
   omega
  ·simp at h1
   omega
theorem YX {cs:Array Value} {u v:Value} (h:cs[0]? = some u):(cs.setIfInBounds 0 v)[0]? = some v:=by
 have:=(Array.getElem?_eq_some_iff.1 h).1;simp[this]
theorem Cel.fr {w w':World} {g:Nat} {u:Value} {S:Nat-> Prop} (h:Cel w g u) (hf:Fr S w w') (hs: ¬S g):Cel w' g u:=by
 obtain⟨T,cs,h,hc⟩:=h;exact⟨T,cs,h.fr hf hs,hc⟩
structure FH (w:World) (T:TypeId) (g base:Nat) (v:Value) (l:List Fd) (cs:Array Value):Prop where
 blk:Blk w g T cs
 c0:cs[0]? = some v
 own:OF w base v l
 lo:base<= g
 ne:v.ownBlock≠some g
theorem FH.cel {w:World} {T:TypeId} {g base:Nat} {v:Value} {l:List Fd} {cs:Array Value} (h:FH w T g base v l cs):Cel w g v:=Cel.of h.blk h.c0
theorem FH.fr {w w':World} {T:TypeId} {g base:Nat} {v:Value} {l:List Fd} {cs:Array Value} {S:Nat-> Prop} (h:FH w T g base v l cs) (hf:Fr S w w') (h1: ¬S g) (h2: ∀k,v.ownBlock=some k-> ¬S k):FH w' T g base v l cs:=
 ⟨h.blk.fr hf h1,h.c0,Own.fr h.own hf h2,h.lo,h.ne⟩
theorem FH.ah {w w':World} {T:TypeId} {g base:Nat} {v:Value} {l:List Fd} {cs:Array Value} (h:FH w T g base v l cs) (hb:Below w.heap.size w w'):FH w' T g base v l cs:=
 ⟨h.blk.ah hb,h.c0,h.own.ah hb,h.lo,h.ne⟩
theorem FH.alloc {w:World} {T:TypeId} {g base:Nat} {v:Value} {l:List Fd} {cs:Array Value} (h:FH w T g base v l cs) (o:Obj):FH (w.alloc o) T g base v l cs:=
 ⟨h.blk.alloc o,h.c0,Own.alloc h.own o,h.lo,h.ne⟩
theorem FH.rd {w:World} {T:TypeId} {g base:Nat} {v:Value} {l:List Fd} {cs:Array Value} (h:FH w T g base v l cs) (T':TypeId):FR w T' g l:=by
 obtain⟨A,c,e,h1,-,h3⟩:=h.own.form;exact⟨A,c,by rw[<- e];exact h.cel,h1,h3⟩
theorem FH.app {w1 w3:World} {T:TypeId} {g base:Nat} {v v':Value} {l l':List Fd} {cs:Array Value} (h:FH w1 T g base v l cs) (hx:Ext w1 w3 v v') (ho:OF w3 base v' l'):FH (w3.setCell ⟨g,0,none⟩ v') T g base v' l' (cs.setIfInBounds 0 v'):=by
 have hne: ∀k,v'.ownBlock=some k-> k≠g:=by
  intro k hk hg;subst hg;rcases hx.own k hk with h1|h1
  ·exact h.ne h1
  ·have:=h.blk.lt;omega
 exact⟨(h.blk.fr hx.fr h.ne).ay 0 v',YX h.c0,Own.far ho (p:=⟨g,0,none⟩) hne v',h.lo,fun e=>hne g e rfl⟩
theorem MJ (w:World) (B lo hi n c:Nat) (A:Option Addr) (l:List Nat) (hr:Rd w B 1 A n (l.map nV)) (hl: ∀x∈l,lo<= x/\ x<= hi) (hn:n<= 100):
 Calls Tryz.prog 168 #[nV lo,nV hi,.slice A n c] w fun e w'=>e= .returned (.bool true)/\ w=w':=by
 have hln:l.length=n:=by simpa using hr.1
 go_enter Tryz.func168,Tryz.ntmps168
 go_wp2_with fail
 go_loopw [11] (fun i wr=> ∃k:Nat,i= .int .i64 k/\ k<= n/\ w=wr) (fun i _=>n- (intOf i).toNat)
 case atStart=>exact⟨0,rfl,Nat.zero_le _,rfl⟩
 case round=>
  obtain⟨k,rfl,hk,rfl⟩:=hrel;by_cases hlt:k<n
  ·obtain⟨bx,ox,rfl,hbx,hcx⟩:=hr.2 (by omega)
   obtain⟨d,hd⟩: ∃d,l[k]? = some d:=⟨l[k],List.getElem?_eq_getElem (by omega)⟩
   obtain⟨h1,h2⟩:=hl d (List.mem_of_getElem? hd);have hx:w.cell? ⟨bx,ox+k,none⟩=some (nV d):=hcx k (nV d) (by rw[List.getElem?_map,hd];rfl)
   have d1:decide (d<lo)=false:=by simp;omega
   have d2:decide (hi<d)=false:=by simp;omega
   clear hcx hr hl;go_wp2_with fail
   go_roundw
   case rel=>exact⟨k+1,by go_num,hlt,trivial⟩
   case measure=>simp[intOf];omega
  ·obtain rfl:k=n:=by omega
   go_wp2
   go_ret
   exact⟨rfl,rfl⟩
structure GY (c:Cf):Prop where
 a0:1<= c.jE/\ c.jE<= 64
 a1:1<= c.jF/\ c.jF<= 64
 a2:1<= c.pipe/\ c.pipe<= 64
 a3:c.jg<= 4096
 a4:1<= c.idle/\ c.idle<= 1073741824
 a5:1<= c.head/\ c.head<= 1073741824
 a6:1<= c.body/\ c.body<= 1073741824
 a7:1<= c.write/\ c.write<= 1073741824
 a8:1<= c.bC/\ c.bC<= 1073741824
 a9:c.jR<= 1073741824
 a10:c.gJ<= 1048576
 a11:c.base<= 1048576
 a12:c.cap<= 1073741824
theorem Rd.lit (w:World) (xs:List Value) (e:TypeId) (n:Nat) (h:xs.length=n):Rd (w.alloc (.cells xs.toArray e)) (w.heap.size+1) 1 (some ⟨w.heap.size,0,none⟩) n xs:=Rd.new w _ rfl xs e n 1 (by omega)
theorem GZ (w:World) (c:Cf) (tv:Value) (h:GY c):
 Calls Tryz.prog 109 #[.agg (cfC c tv).toArray] w fun e w'=>e= .returned (.bool true)/\ Below w.heap.size w w':=by
 have hW:=fun(V:World) (g:Nat) (hg:g=V.heap.size) lo hi n (xs:List Nat) (hn:xs.length=n) (hn2:n<= 100) (hl: ∀x∈xs,lo<= x/\ x<= hi)=>
  show Calls Tryz.prog 168 #[nV lo,nV hi,.slice (some ⟨g,0,none⟩) n n] (V.alloc (.cells (xs.map nV).toArray 3)) fun e w'=>e= .returned (.bool true)/\ Below V.heap.size V w' from by
   subst hg;exact(MJ _ _ lo hi n n _ xs (Rd.lit V (xs.map nV) _ n (by simpa using hn)) hl hn2).mono fun e w' ⟨h1,h2⟩=>⟨h1,by rw[<- h2];exact aj (Below.refl _ _) _⟩
 obtain⟨a0,a1,a2,a3,a4,a5,a6,a7,a8,a9,a10,a11,a12⟩:=h;go_enter Tryz.func109,Tryz.ntmps109
 go_upto_region 1 with(fail)
 obtain⟨V,hV⟩: ∃V,V=w.alloc (.cells (cfC c tv).toArray 25):=⟨_,rfl⟩;rw[<- hV];have LV:Below w.heap.size w V:=by rw[hV];exact aj (Below.refl _ _) _
 have BV:Blk V w.heap.size 25 (cfC c tv).toArray:=by rw[hV];exact Blk.new' _ _ rfl _ _
 clear hV;have hc:=BV.cell;have c0:=hc 0;have c1:=hc 1;have c2:=hc 2;have hh:=LV.size;have hlt:=BV.lt;clear hc;simp only[cfC,List.getElem?_toArray,List.getElem?_cons_zero,List.getElem?_cons_succ]at c0 c1 c2;go_wp2_with fail
 refine(hW V _ rfl 1 64 3 [c.jE,c.jF,c.pipe] rfl (by decide) (by simp;omega)).mono ?_
 rintro e w1 ⟨rfl,L1⟩;have B1:=BV.ah L1;have c3:=B1.cell 3;simp only[cfC,List.getElem?_toArray,List.getElem?_cons_zero,List.getElem?_cons_succ]at c3;go_wp2_with fail
 refine(hW w1 _ rfl 0 4096 1 [c.jg] rfl (by decide) (by simp;omega)).mono ?_
 rintro e w2 ⟨rfl,L2⟩;have B2:=B1.ah L2;have c4:=B2.cell 4;have c5:=B2.cell 5;have c6:=B2.cell 6;have c7:=B2.cell 7;have c8:=B2.cell 8;simp only[cfC,List.getElem?_toArray,List.getElem?_cons_zero,List.getElem?_cons_succ]at c4 c5 c6 c7 c8;go_wp2_with fail
 refine(hW w2 _ rfl 1 1073741824 5 [c.idle,c.head,c.body,c.write,c.bC] rfl (by decide) (by simp;omega)).mono ?_
 rintro e w3 ⟨rfl,L3⟩;have B3:=B2.ah L3;have c9:=B3.cell 9;have c12:=B3.cell 12;simp only[cfC,List.getElem?_toArray,List.getElem?_cons_zero,List.getElem?_cons_succ]at c9 c12;go_wp2_with fail
 refine(hW w3 _ rfl 0 1073741824 2 [c.jR,c.cap] rfl (by decide) (by simp;omega)).mono ?_
 rintro e w4 ⟨rfl,L4⟩;have B4:=B3.ah L4;have c10:=B4.cell 10;have c11:=B4.cell 11;simp only[cfC,List.getElem?_toArray,List.getElem?_cons_zero,List.getElem?_cons_succ]at c10 c11;go_wp2_with fail
 refine(hW w4 _ rfl 0 1048576 2 [c.gJ,c.base] rfl (by decide) (by simp;omega)).mono ?_
 rintro e w5 ⟨rfl,L5⟩;go_wp2_with fail
 go_ret
 exact⟨rfl,stepW (stepW (stepW (stepW (stepW LV L1) L2) L3) L4) L5⟩
theorem Om (w:World) (t:Nat-> Nat) (m:Nat) (c:Cf) (tv:Value) (h:GY c):
 Calls Tryz.prog 60 #[.agg (cfC c tv).toArray] w fun e w'=> ∃g t',e= .returned (.tuple #[.pointer (some ⟨g,0,none⟩),.int .i64 0])/\ w.heap.size<= g/\ nS w' t' m g c tv ⟨[],0,0,0,0,false⟩/\ Stp (fun _=>False) w t w' t':=by
 have hI:=fun w'=>GZ w' c tv h
 have hmk: ∀w:World,(Instr.makeMap 171 none).run Tryz.prog w= .ok (.map (some w.heap.size)) (w.alloc (.map #[] 0)):=fun _=>rfl
 go_enter Tryz.func60,Tryz.ntmps60
 go_upto_region 1 with(fail)
 obtain⟨V,hV⟩: ∃V,V=w.alloc (.cells (cfC c tv).toArray 25):=⟨_,rfl⟩;rw[<- hV];have LV:Below w.heap.size w V:=by rw[hV];exact aj (Below.refl _ _) _
 have BV:Blk V w.heap.size 25 (cfC c tv).toArray:=by rw[hV];exact Blk.new' _ _ rfl _ _
 clear hV;have hh:=LV.size;have hc:=BV.cell;have c0:=hc 0;have c1:=hc 1;have c2:=hc 2;have c3:=hc 3;have c4:=hc 4;have c5:=hc 5;have c6:=hc 6;have c7:=hc 7;have c8:=hc 8;have c9:=hc 9;have c10:=hc 10;have c11:=hc 11;have c12:=hc 12;have c13:=hc 13;have c14:=hc 14;have c15:=hc 15;clear hc;simp only[cfC,List.getElem?_toArray,List.getElem?_cons_zero,List.getElem?_cons_succ]at c0 c1 c2 c3 c4 c5 c6 c7 c8 c9 c10 c11 c12 c13 c14 c15;go_wp2_with fail
 refine(hI V).mono ?_;rintro e w1 ⟨rfl,L1⟩;have B1:=BV.ah L1;clear c0 c1 c2 c3 c4 c5 c6 c7 c8 c9 c10 c11 c12 c13 c14 c15;have hc:=B1.cell;have c0:=hc 0;have c1:=hc 1;have c2:=hc 2;have c3:=hc 3;have c4:=hc 4;have c5:=hc 5;have c6:=hc 6;have c7:=hc 7;have c8:=hc 8;have c9:=hc 9;have c10:=hc 10;have c11:=hc 11;have c12:=hc 12;have c13:=hc 13;have c14:=hc 14;have c15:=hc 15;clear hc;simp only[cfC,List.getElem?_toArray,List.getElem?_cons_zero,List.getElem?_cons_succ]at c0 c1 c2 c3 c4 c5 c6 c7 c8 c9 c10 c11 c12 c13 c14 c15;go_wp2_with fail
 go_ret2
 have M1:=MT.new w1 t (m+1) nV nOk nV;have S1:Stp (fun _=>False) w t w1 t:=Stp.below (stepW LV L1) _ t
 have S2:=Stp.alloc w1 t (fun _=>False) (.map #[] 0) (m+1)
 have S3:=fun o=>Stp.alloc (w1.alloc (.map #[] 0)) (upT t w1 (m+1)) (fun _=>False) o m
 refine⟨_,_,rfl,?_,⟨w1.heap.size,BT.new' (w1.alloc (.map #[] 0)) (upT t w1 (m+1)) m _ (by simp) _ _,M1.keep (S3 _) id⟩,(S1.trans S2 fun _ h=>h).trans (S3 _) fun _ h=>h⟩
 exact Nat.le_trans (stepW LV L1).size (by simp)
end Go.Proofs.YtdmondfpepbniaaGreatDoor
