/- Part 26 of the proof: VsB VgA RhA Client. -/
import Derived.Test.YtdmondfpepbniaaGreatDoorQ21
namespace Go.Proofs.YtdmondfpepbniaaGreatDoor
open Go.RowKit
set_option maxRecDepth 100000
set_option maxHeartbeats 4000000
set_option linter.all false
theorem yR: ∀(l:List fG) (k:Nat) (x:fG),l[k]? = some x->(bZ l).set (k*3+1) (.bool false)=bZ (l.modify k fun x=> { x with used:=false })
 | [],k,x,h=>by simp at h
 |y::l,0,x,h=>by simp[bZ,BF]
 |y::l,k+1,x,h=>by
  have:=yR l k x (by simpa using h)
  rw[show(k+1)*3+1=(k*3+1)+3 by omega]
  simp only[bZ]at this;simp[bZ,BF,this]
theorem QM (w:World) (t:Nat-> Nat) (m g:Nat) (s:iU) (h:Hn) (hK:jT w t m g s) (A:Option Addr) (c:Nat) (hl:1<= s.len/\ s.len<= 1000000)
 (h2: ∃x o,A=some ⟨x,o,none⟩/\ x<w.heap.size/\ w.cell? ⟨x,o,none⟩=some (nV h.1)/\ w.cell? ⟨x,o+1,none⟩=some (nV h.2)):
 Calls Tryz.prog 84 #[.pointer (some ⟨g,0,none⟩),.slice A 1 c] w fun e w'=>(∃v:Int,e= .returned (.int .i64 v)/\ 0<= v/\ v<= 1)/\ ∃t',jT w' t' m g (gY s h)/\ Stp (jf m) w t w' t':=by
 obtain⟨x2,o2,rfl,hx2,y1,y2⟩:=h2;go_enter Tryz.func84,Tryz.ntmps84
 go_wp2_with fail
 go_loopw [5,11] (fun y i wr=>(i= .int .i64 0/\ y= .int .i64 0/\ w=wr)\/ (i= .int .i64 1/\ (∃v:Int,y= .int .i64 v/\ 0<= v/\ v<= 1)/\ ∃t',jT wr t' m g (gY s h)/\ Stp (jf m) w t wr t')) (fun _ i _=>1- (intOf i).toNat)
 case atStart=>exact .inl ⟨rfl,rfl,rfl⟩
 case round=>
  rcases hrel with⟨rfl,rfl,rfl⟩| ⟨rfl,⟨v,rfl,hv0,hv1⟩,hend⟩
  ·go_upto_region 5 with(fail)
   obtain⟨V,hV⟩: ∃V,V=w.alloc (.cells #[nV h.1,nV h.2] 72):=⟨_,rfl⟩;rw[<- hV];have LV:Below w.heap.size w V:=by rw[hV];exact aj (Below.refl _ _) _
   have BV:Blk V w.heap.size 72 #[nV h.1,nV h.2]:=by rw[hV];exact Blk.new' _ _ rfl _ _
   clear hV;have hKV:=hK.keep (Stp.below LV (fun _=>False) t) id id
   have hAt:=aaD V t m g s h hKV;obtain⟨x0,x1,-,-⟩:=BV.c2;go_wp2_with fail
   refine hAt.mono ?_;rintro e w1 ⟨hP,L1⟩;have L2:=stepW LV L1;rw[AtP]at hP;rcases hh:oN s h with _|_
   ·rw[hh,if_neg (by simp)]at hP
    subst hP;have HT:=Lib.hid (show gY s h=s by rw[gY,hh];rfl)
    have hK1:=hK.keep (Stp.below L2 (fun _=>False) t) id id
    go_wp2_with fail
    go_roundw
    case rel=>exact .inr ⟨rfl,⟨0,rfl,by omega,by omega⟩,t,by rw[HT.out];exact hK1,Stp.below L2 _ t⟩
    case measure=>simp[intOf]
   ·rw[hh,if_pos rfl]at hP
    obtain⟨gr,off,cp,x,hx,hrV,hcV,rfl⟩:=hP;have hr1:=hrV.ah L1;have hk:h.1<s.slots.length:=(List.getElem?_eq_some_iff.1 hx).1;obtain⟨v0,hb0,hr0⟩:=hKV;obtain rfl:v0= .slice (some ⟨gr,off,none⟩) s.slots.length cp:=by
     have:=(hb0.b.cell 1).symm.trans hcV;simpa using this
    have HT:=Lib.hid (show gY s h= { s with slots:=s.slots.modify h.1 fun x=> { x with used:=false },len:=s.len-1 } by rw[gY,hh];rfl)
    have hb1:=hb0.ah L1;obtain⟨k0,k1,k2,z0,z1,z2⟩:=hb1.b.c3;obtain⟨g9,off9,cp9,hv9,hm9,-,-,y0,y1',y2',n0,n1,n2⟩:=hr1.slot rfl h.1 x hx;injection hv9 with hv9 _ hv8
    injection hv9 with hv9
    injection hv9 with hv6 hv7
    subst hv6 hv7 hv8;have e1:gr≠g:=fun e=>by have:=hb1.m;rw[<- e,hm9]at this;omega
    go_wp2_with fail
    go_roundw
    case rel=>
     obtain⟨hr2,s2⟩:=hr1.stored (S:=fun x=>x=m\/ x=m+1) (.inr rfl) (h.1*3+1) (by omega) (.bool false)
     rw[<- Nat.add_assoc]at hr2 s2;rw[yR s.slots h.1 x hx]at hr2;have s2':=(hr1.stored (S:=fun x=>x=m+1) rfl (h.1*3+1) (by omega) (.bool false)).2
     rw[<- Nat.add_assoc]at s2';have hb2:=hb1.keep s2' (by omega)
     obtain⟨hb3,s3⟩:=hb2.aH 2 (.int .i64 ((s.len:Int)-1));have e2:((s.len-1:Nat):Int)=(s.len:Int)-1:=by omega
     exact .inr ⟨rfl,⟨1,rfl,by omega,by omega⟩,t,by rw[HT.out];exact⟨.slice (some ⟨gr,off,none⟩) s.slots.length cp,hb3.to (by simp[e2]),by rw[List.length_modify];exact hr2.keep s3 (by omega)⟩,((Stp.below L2 (fun _=>False) t).mono (S':=jf m) fun _ h=>h.elim).trans (s2.trans (S':=fun x=>x=m\/ x=m+1) (s3.mono fun x h=>.inl h) (fun x h=>h) |>.mono fun x (h:x=m\/ x=m+1)=>(show m<= x/\ x<m+5 by omega)) fun _ h=>h⟩
    case measure=>simp[intOf]
  ·go_wp2_with fail
   go_ret
   exact⟨⟨v,rfl,hv0,hv1⟩,hend⟩
theorem wK: ∀(l:List fG) (i:Nat),(fH i l).length<= l.length
 | [],_=>Nat.le_refl _
 |x::l,i=>by
  have:=wK l (i+1);rw[fH];split<;>simp<;>omega
theorem Dy (s:List fG) (k:Nat) (x:fG) (h:s[k]? = some x):fH k (s.drop k)=(if x.used then [(k,x.gen)]else [])++fH (k+1) (s.drop (k+1)):=by
 have hk:k<s.length:=(List.getElem?_eq_some_iff.1 h).1;have e:s[k]=x:=(List.getElem?_eq_some_iff.1 h).2;rw[List.drop_eq_getElem_cons hk,e,fH];split<;>simp
def oZ (l:List Hn):List Value:=l.flatMap fun h=> [nV h.1,nV h.2]
theorem Y4 (w:World) (t:Nat-> Nat) (m g:Nat) (s:iU) (hK:jT w t m g s) (hs:s.slots.length<= 100000):
 Calls Tryz.prog 86 #[.pointer (some ⟨g,0,none⟩)] w fun e w'=> ∃v,e= .returned v/\ Own w' w.heap.size 72 2 v (iV s).length (oZ (iV s))/\ Below w.heap.size w w':=by
 obtain⟨v,hb,hr⟩:=hK;obtain⟨A,c,rfl,hnc,hcm,-,-⟩:=hr.form;obtain⟨j0,j1,j2,-,-,-⟩:=hb.b.c3;obtain⟨i0,hi,hz0,hz1,hz2⟩:=info_parts (show(Tryz.prog.info? 72).map (fun i=>(i.zero,i.size,i.bytes))=some (some (.agg #[.int .i64 0,.int .i64 0]),2,16) by kernel_rfl)
 go_enter Tryz.func86,Tryz.ntmps86
 go_wp2_with fail
 go_loopw [3,13] (fun y i wr=> ∃(k:Nat) (acc:List Hn),i= .int .i64 k/\ k<= s.slots.length/\ acc.length<= k/\ Hid (iV s=acc++fH k (s.slots.drop k))/\ Own wr w.heap.size 72 2 y acc.length (oZ acc)/\ Below w.heap.size w wr) (fun _ i _=>s.slots.length- (intOf i).toNat)
 case atStart=>exact⟨0,[],rfl,Nat.zero_le _,Nat.zero_le _,Lib.hid rfl,Own.nil _ _ _ _,Below.refl _ _⟩
 case round=>
  obtain⟨k,acc,rfl,hk,hal,HE,ho,L⟩:=hrel;obtain⟨A3,c3,rfl,-,-,-,-⟩:=Own.rd ho;by_cases hlt:k<s.slots.length
  ·obtain⟨x,hx⟩: ∃x,s.slots[k]? = some x:=⟨s.slots[k],List.getElem?_eq_getElem hlt⟩
   have HS:=Dy s.slots k x hx;obtain⟨gp,off,cp,hv,hm,-,-,y0,y1,y2,-,-,-⟩:=(hr.ah L).slot rfl k x hx;injection hv with hv1 _ hv2
   subst hv1 hv2;have hs0:=L.size;cases hu:x.used
   ·rw[hu]at y1 HS
    have HE2:=Lib.hid (show iV s=acc++fH (k+1) (s.slots.drop (k+1)) by rw[HE.out,HS];simp)
    go_wp2_with fail
    go_roundw
    case rel=>exact⟨k+1,acc,by go_num,hlt,by omega,HE2,Own.alloc ho _,aj L _⟩
    case measure=>simp[intOf];omega
   ·rw[hu]at y1 HS
    have HE2:=Lib.hid (show iV s=(acc++ [(k,x.gen)])++fH (k+1) (s.slots.drop (k+1)) by rw[HE.out,HS];simp)
    go_wp2_with (at_builtin;go_must (refine aJ _ rfl _ _ 170 170 rfl w.heap.size 72 i0 _ 2 16 Tryz.underlying170 (.inl Tryz.underlying170) hi hz0 hz1 hz2 rfl (by decide) (.slice A3 acc.length c3) acc.length (oZ acc) rfl (Own.alloc (Own.alloc ho _) _) _ 1 [nV k,nV x.gen] rfl (Src.fB (Rd.new _ _ (by simp) [nV k,nV x.gen] 72 1 2 rfl) (by intro u hu;simp at hu;rcases hu with rfl|rfl<;>rfl)) (by unfold maxLen;omega) (by omega) (by simp;omega) ?_;intro v' w3 ho3 hg3 ha3))
    go_roundw
    case rel=>exact⟨k+1,acc++ [(k,x.gen)],by go_num,hlt,by simp;omega,HE2,by rw[List.length_append,List.length_singleton,show oZ (acc++ [(k,x.gen)])=oZ acc++ [nV k,nV x.gen] by simp[oZ]];exact ho3,DC (aj (aj L _) _) hg3 (fun j hj=>(Own.lt ho j hj).1)⟩
    case measure=>simp[intOf];omega
  ·obtain rfl:k=s.slots.length:=by omega
   have HF:=Lib.hid (show iV s=acc by rw[HE.out,List.drop_length,fH];simp)
   go_wp2_with fail
   go_ret
   exact⟨_,rfl,by rw[HF.out];exact ho,L⟩
theorem z_int (w:World):(zeroValue 3).run Tryz.prog w= .ok (.int .i64 0) w:=by
 obtain⟨i,hi,hz⟩:=Option.map_eq_some_iff.1 (show(Tryz.prog.info? 3).map (·.zero)=some (some (.int .i64 0)) by kernel_rfl)
 simp[zeroValue,typeInfo,hi,hz]
theorem JC (w:World) (t:Nat-> Nat) (τ b:Nat) (l:List (Nat×Nat)) (p:Nat) (h:MT w t τ b nV nOk nV l) (hp:nOk p):
 (Instr.lookup 171 (.map (some b)) (.int .i64 (p:Int)) false).run Tryz.prog w= .ok (.int .i64 (((aT l p).getD 0:Nat):Int)) w:=by
 rw[show(.int .i64 (p:Int):Value)=nV p from rfl,h.look BH Tryz.underlying171 (z_int w) p hp false]
 cases aT l p<;>rfl
theorem JD (w:World) (t:Nat-> Nat) (m g:Nat) (c:Cf) (tv:Value) (s:iW) (p:Nat) (h:nS w t m g c tv s) (hp:nOk p) (hn:gIn s p<= 1000000) (ha:s.all<= 1000000):
 Calls Tryz.prog 145 #[.pointer (some ⟨g,0,none⟩),nV p] w fun e w'=>e= .returned (nV (pI c s p).2)/\ ∃t',nS w' t' m g c tv (pI c s p).1/\ Stp (Mk m 5) w t w' t':=by
 obtain⟨b,hb,hm⟩:=h.k;have i18:w.frozen? ⟨g,18,none⟩=false:=hb.b.frozen 18;have j18:w.cell? ⟨g,18,none⟩=some (nV s.failures):=hb.b.cell 18;go_enter Tryz.func145,Tryz.ntmps145
 go_upto_region 4 with(fail)
 obtain⟨V,hV⟩: ∃V,V=w.setCell ⟨g,18,none⟩ (.int .i64 0):=⟨_,rfl⟩;rw[<- hV];have hb2:BT V t m g 173 (yQ c tv b { s with failures:=0 }):=by rw[hV];exact(hb.ay 18 (.int .i64 0)).to (by simp[yQ])
 have S2:Stp (fun x=>x=m) w t V t:=by rw[hV];exact Stp.setCell (S:=fun x=>x=m) hb rfl 18 _
 clear hV;have hm2:=hm.keep S2 (by omega)
 have hF:=fun q=>Jv (V.drewN q) t m g c tv { s with failures:=0 } ⟨b,hb2.drewN q,hm2.drewN q⟩
 have hk:=fun q=>JC (V.drewN q) t (m+1) b s.inn p (hm2.drewN q) hp
 have hk0:=JC V t (m+1) b s.inn p hm2 hp;have j1:V.cell? ⟨g,1,none⟩=some (nV c.jF):=hb2.b.cell 1;have j16:V.cell? ⟨g,16,none⟩=some (.map (some b)):=hb2.b.cell 16;have hfe:vX c { s with failures:=0 } =vX c s:=rfl
 simp only[hfe]at hF;obtain⟨n,hgn⟩: ∃n,(aT s.inn p).getD 0=n:=⟨_,rfl⟩;have hgi:gIn s p=n:=hgn;have hn:n<= 1000000:=by omega
 rw[hgn]at hk0;simp only[hgn]at hk;rcases hlt:decide (n<c.jF)with _|_
 ·have HR:=Lib.hid (show pI c s p=({ s with failures:=0 },if c.refuse then 2 else 3) by rw[pI,if_neg (by intro h;rw[hgi]at h;simp[h.1]at hlt)])
  go_quiet (fail)
  have hb3:=hb2.drewN nq;have hm3:=hm2.drewN nq;have S3:=S2.drewN nq;generalize V.drewN nq=W at*;have j13:W.cell? ⟨g,13,none⟩=some (.bool c.refuse):=hb3.b.cell 13;cases hrf:c.refuse
  ·rw[hrf]at j13
   go_wp2_with fail
   go_ret
   exact⟨by rw[HR.out,hrf];rfl,t,by rw[HR.out];exact⟨b,hb3,hm3⟩,S3.mono fun x (h:x=m)=>(show m<= x/\ x<m+5 by omega)⟩
  ·rw[hrf]at j13
   go_wp2_with fail
   go_ret
   exact⟨by rw[HR.out,hrf];rfl,t,by rw[HR.out];exact⟨b,hb3,hm3⟩,S3.mono fun x (h:x=m)=>(show m<= x/\ x<m+5 by omega)⟩
 ·rcases hf:vX c s with _|_
  ·simp only[hf]at hF
   have HR:=Lib.hid (show pI c s p=({ s with failures:=0,inn:=bK s.inn p (n+1),all:=s.all+1 },1) by rw[pI,if_pos (by rw[hgi];simp at hlt;exact⟨hlt,hf⟩),hgi])
   go_quiet ((go_at_call 85;exact zn (hF _)))
   have hb3:=hb2.drewN nq;have hm3:=hm2.drewN nq;have S3:=S2.drewN nq;have hk3:=hk nq;clear hk hk0 hb2 hm2 S2 hF j1 j16;generalize V.drewN nq=W at*;have j16:W.cell? ⟨g,16,none⟩=some (.map (some b)):=hb3.b.cell 16;have hn1:=Lib.hid (show((n+1:Nat):Int)=(n:Int)+1 by omega)
   go_wp2_with (at_mapUpdate;go_must (refine Uf rfl _ _ _ 171 rfl BH Tryz.underlying171 hm3 rfl p hp rfl (n+1) (show _=Value.int .i64 ((n+1:Nat):Int)from by rw[hn1.out];rfl) ?_;intro w4 hm4 hs4;have hb4:=hb3.keep (hs4 (fun x=>x=m+1) rfl) (by omega);have S4:=(S3.mono (S':=fun x=>x=m\/ x=m+1) fun x h=>.inl h).trans (hs4 (fun x=>x=m+1) rfl) (fun x h=>.inr h);have j17:w4.cell? ⟨g,17,none⟩=some (nV s.all):=hb4.b.cell 17;have i17:w4.frozen? ⟨g,17,none⟩=false:=hb4.b.frozen 17))
   go_ret
   have q1:=Stp.setCell (S:=fun x=>x=m) hb4 rfl 17 (.int .i64 ((s.all:Int)+1))
   have b1:=hb4.ay 17 (.int .i64 ((s.all:Int)+1));exact⟨by rw[HR.out];rfl,t,by rw[HR.out];exact⟨b,b1.to (by simp[yQ]),hm4.keep q1 (by omega)⟩,(S4.mono fun x (h:x=m\/ x=m+1)=>(show m<= x/\ x<m+5 by omega)).trans q1 fun x (h:x=m)=>(show m<= x/\ x<m+5 by omega)⟩
  ·simp only[hf]at hF
   have HR:=Lib.hid (show pI c s p=({ s with failures:=0 },if c.refuse then 2 else 3) by rw[pI,if_neg (by intro h;rw[hf]at h;cases h.2)])
   go_quiet ((go_at_call 85;exact zn (hF _)))
   have hb3:=hb2.drewN nq;have hm3:=hm2.drewN nq;have S3:=S2.drewN nq;generalize V.drewN nq=W at*;have j13:W.cell? ⟨g,13,none⟩=some (.bool c.refuse):=hb3.b.cell 13;cases hrf:c.refuse
   ·rw[hrf]at j13
    go_wp2_with fail
    go_ret
    exact⟨by rw[HR.out,hrf];rfl,t,by rw[HR.out];exact⟨b,hb3,hm3⟩,S3.mono fun x (h:x=m)=>(show m<= x/\ x<m+5 by omega)⟩
   ·rw[hrf]at j13
    go_wp2_with fail
    go_ret
    exact⟨by rw[HR.out,hrf];rfl,t,by rw[HR.out];exact⟨b,hb3,hm3⟩,S3.mono fun x (h:x=m)=>(show m<= x/\ x<m+5 by omega)⟩
theorem MP (w:World) (t:Nat-> Nat) (m g:Nat) (c:Cf) (tv:Value) (s:iW) (now:Nat) (h:nS w t m g c tv s) (hc:c.cap<= 1073741824) (hb0:c.base<= 1073741824) (hd:s.delay<= 1073741824) (hf:s.failures<= 1000000) (hn:now<= ticks):
 Calls Tryz.prog 144 #[.pointer (some ⟨g,0,none⟩),nV now] w fun e w'=>e= .returned (.tuple #[])/\ ∃t',nS w' t' m g c tv (lV c s now)/\ Stp (Mk m 5) w t w' t':=by
 obtain⟨b,hb,hm⟩:=h.k;have hn2:now<= 1099511627776:=hn;have i18:w.frozen? ⟨g,18,none⟩=false:=hb.b.frozen 18;have j18:w.cell? ⟨g,18,none⟩=some (nV s.failures):=hb.b.cell 18;have i19:w.frozen? ⟨g,19,none⟩=false:=hb.b.frozen 19;have j19:w.cell? ⟨g,19,none⟩=some (nV s.delay):=hb.b.cell 19;have i20:w.frozen? ⟨g,20,none⟩=false:=hb.b.frozen 20;have j20:w.cell? ⟨g,20,none⟩=some (nV s.till):=hb.b.cell 20;have j11:w.cell? ⟨g,11,none⟩=some (nV c.base):=hb.b.cell 11;have j12:w.cell? ⟨g,12,none⟩=some (nV c.cap):=hb.b.cell 12;by_cases h0:s.failures=0
 ·have d0:((s.failures:Int)==0)=true:=by simp[h0]
  go_enter Tryz.func144,Tryz.ntmps144
  go_wp2_with fail
  go_region
  go_wp2_with fail
  go_end0
  obtain⟨b1,q1⟩:=hb.aH 19 (.int .i64 (c.base:Int));obtain⟨b2,q2⟩:=b1.aH 18 (.int .i64 1);obtain⟨b3,q3⟩:=b2.aH 19 (.int .i64 (min (c.cap:Int) (c.base:Int)));obtain⟨b4,q4⟩:=b3.aH 20 (.int .i64 (max 0 (min (now:Int) 1099511627776)+min (c.cap:Int) (c.base:Int)));have q:=((q1.trans q2 fun _ h=>h).trans q3 fun _ h=>h).trans q4 fun _ h=>h
  have e1:((min c.cap c.base:Nat):Int)=min (c.cap:Int) (c.base:Int):=by omega
  have e2:((min now ticks+min c.cap c.base:Nat):Int)=max 0 (min (now:Int) 1099511627776)+min (c.cap:Int) (c.base:Int):=by unfold ticks;omega
  exact⟨rfl,t,⟨b,((b4.to (by simp only[yQ,lV,h0,if_true,nV,e1,e2];simp)):BT _ t m g _ (yQ c tv b (lV c s now))).drew,(hm.keep q (by omega)).drewN 1⟩,(q.mono fun x (h:x=m)=>(show m<= x/\ x<m+5 by omega)).drew⟩
 ·have d0:((s.failures:Int)==0)=false:=by simp[h0]
  go_enter Tryz.func144,Tryz.ntmps144
  go_wp2_with fail
  go_region
  go_wp2_with fail
  go_region
  go_wp2_with fail
  go_end0
  obtain⟨b1,q1⟩:=hb.aH 19 (.int .i64 (min (c.cap:Int) (2*(s.delay:Int))));obtain⟨b2,q2⟩:=b1.aH 18 (.int .i64 ((s.failures:Int)+1));obtain⟨b3,q3⟩:=b2.aH 19 (.int .i64 (min (c.cap:Int) (2*(s.delay:Int))));obtain⟨b4,q4⟩:=b3.aH 20 (.int .i64 (max 0 (min (now:Int) 1099511627776)+min (c.cap:Int) (2*(s.delay:Int))));have q:=((q1.trans q2 fun _ h=>h).trans q3 fun _ h=>h).trans q4 fun _ h=>h
  have e1:((min c.cap (min c.cap (2*s.delay)):Nat):Int)=min (c.cap:Int) (2*(s.delay:Int)):=by omega
  have e2:((min now ticks+min c.cap (min c.cap (2*s.delay)):Nat):Int)=max 0 (min (now:Int) 1099511627776)+min (c.cap:Int) (2*(s.delay:Int)):=by unfold ticks;omega
  exact⟨rfl,t,⟨b,((b4.to (by simp only[yQ,lV,h0,if_false,nV,e1,e2];simp)):BT _ t m g _ (yQ c tv b (lV c s now))).drew.drew,(hm.keep q (by omega)).drewN 2⟩,(q.mono fun x (h:x=m)=>(show m<= x/\ x<m+5 by omega)).drew.drew⟩
structure uS {α:Type} (f:Bs-> R3 α) (b:Bs) (a:α):Prop where
 all: ∀t,f (b++t)= .ok a t
 cut: ∀s c t,b=s++c::t-> f s= .short
theorem uS.bind {α β:Type} {f:Bs-> R3 α} {g:α-> Bs-> R3 β} {b c:Bs} {a:α} {d:β} (hf:uS f b a) (hg:uS (g a) c d):uS (fun r=>(f r).bind g) (b++c) d:=by
 constructor
 ·intro t
  show(f (b++c++t)).bind g=_;rw[List.append_assoc,hf.all,R3.bind_ok,hg.all]
 ·intro s e t h
  show(f s).bind g=_;rcases List.append_eq_append_iff.mp h with⟨u,h1,h2⟩| ⟨u,h1,h2⟩
  ·rw[h1,hf.all,R3.bind_ok]
   exact hg.cut _ _ _ h2
  ·cases u with
   |nil=>
    rw[List.append_nil]at h1;rw[List.nil_append]at h2;have:=hf.all [];rw[List.append_nil,h1]at this;rw[this,R3.bind_ok];exact hg.cut [] _ _ h2.symm
   |cons x u=>
    rw[hf.cut s x u h1];rfl
theorem uS.ok {α:Type} (a:α):uS (fun t=>R3.ok a t) [] a:=⟨fun _=>rfl,fun s c t h=>by cases s<;>cases h⟩
theorem uS.map {α β:Type} {f:Bs-> R3 α} {g:α-> Bs-> R3 β} {b:Bs} {a:α} {d:β} (hf:uS f b a) (hg: ∀t,g a t= .ok d t):uS (fun r=>(f r).bind g) b d:=by
 have:uS (g a) [] d:=by
  rw[show g a=fun t=>R3.ok d t from funext hg];exact uS.ok d
 have h:=uS.bind hf this;rwa [List.append_nil]at h
theorem uS.congr {α:Type} {f g:Bs-> R3 α} {b:Bs} {a:α} (h: ∀r,(∃t,r=b++t)\/ (∃c t,b=r++c::t)-> f r=g r) (hg:uS g b a):uS f b a:=
 ⟨fun t=>by rw[h _ (.inl ⟨t,rfl⟩)];exact hg.all t,fun s c t e=>by rw[h _ (.inr ⟨c,t,e⟩)];exact hg.cut s c t e⟩
def FdsOk (l:List Fd):Prop:= ∀f∈l,isF f=true/\ lH f.1=false
def offs (n:Nat):List Bs-> List Int
 | []=> []
 |q::ps=>((n+q.length:Nat):Int)::offs (n+q.length) ps
theorem EN (b:Bs): ∀(p:List Int) (at_ last:Int),0<= at_-> at_<= b.length-> jZ b.length at_ p=some last->
 (∀q∈iF b at_ p,q≠[]/\ q.length<= b.length)/\ b.take at_.toNat++(iF b at_ p).flatten=b.take last.toNat/\ offs at_.toNat (iF b at_ p)=p/\ 0<= last/\ last<= b.length/\ (iF b at_ p).length=p.length
 | [],at_,last,h0,h1,h=>by
  rw[jZ]at h;cases h
  exact⟨by simp[iF],by simp[iF],rfl,h0,h1,rfl⟩
 |a::p,at_,last,h0,h1,h=>by
  rw[jZ]at h;split at h
  ·cases h
  ·rename_i hc
   have ih:=EN b p a last (by omega) (by omega) h
   have hql:((b.take a.toNat).drop at_.toNat).length=a.toNat-at_.toNat:=by
    rw[List.length_drop,List.length_take];omega
   refine⟨?_,?_,?_,ih.2.2.2.1,ih.2.2.2.2.1,?_⟩
   ·intro q hq
    rw[iF,List.mem_cons]at hq;rcases hq with rfl|hq
    ·refine⟨?_,by rw[hql];omega⟩
     intro h;rw[h]at hql;simp at hql;omega
    ·exact ih.1 q hq
   ·rw[iF,List.flatten_cons,<- List.append_assoc]
    have:b.take at_.toNat++(b.take a.toNat).drop at_.toNat=b.take a.toNat:=by
     conv=>rhs;rw[<- List.take_append_drop at_.toNat (b.take a.toNat)]
     rw[List.take_take,Nat.min_eq_left (by omega)]
    rw[this];exact ih.2.1
   ·rw[iF,offs,hql]
    have e:at_.toNat+(a.toNat-at_.toNat)=a.toNat:=by omega
    rw[e,ih.2.2.1,Int.toNat_of_nonneg (by omega)]
   ·rw[iF,List.length_cons,ih.2.2.2.2.2,List.length_cons]
theorem Ot: ∀(l acc:List Fd) (i:Nat),acc.length<= 24->(lG acc l i).2.2=0->(∀f∈l,isF f=true)/\ acc.length+l.length<= 24
 | [],acc,i,h,_=>⟨by simp,by simpa using h⟩
 |f::l,acc,i,h,he=>by
  by_cases hf:isF f=true
  ·by_cases h24:24<= acc.length
   ·rw[xI acc f l i hf h24]at he;simp at he
   ·rw[zZ acc f l i hf (by omega)]at he
    have:=Ot l (acc++ [f]) (i+1) (by simp;omega) he
    rw[List.length_append,List.length_singleton]at this;refine⟨?_,by rw[List.length_cons];omega⟩
    intro g hg;rw[List.mem_cons]at hg;rcases hg with rfl|hg
    ·exact hf
    ·exact this.1 g hg
  ·rw[IB acc f l i (by simpa using hf)]at he;simp at he
theorem rW (r:Rs) (h:dh r=true):(200<= r.st/\ r.st<= 599)/\ (bW r.st=true-> r.b= []/\ r.p= [])/\ FdsOk r.f/\ r.f.length<= 24/\
 ∃last,jZ r.b.length 0 r.p=some last/\ (r.p≠[]-> last=r.b.length):=by
 rw[dh,Bool.and_eq_true,Bool.and_eq_true,Bool.and_eq_true]at h;obtain⟨h1,h2,h3,h4⟩:=h;simp only[Dk,Bool.not_eq_true',Bool.or_eq_false_iff,Bool.and_eq_false_iff,decide_eq_false_iff_not]at h1;simp only[PY,Bool.not_eq_true',Bool.or_eq_false_iff,decide_eq_false_iff_not,Decidable.not_not]at h2;obtain⟨a1,a2⟩:=Ot r.f [] 0 (by simp) h2.2
 rw[uh,List.all_eq_true]at h3;have hl: ∃last,jZ r.b.length 0 r.p=some last/\ (r.p≠[]-> last=r.b.length):=by
  unfold AQ at h4;split at h4
  ·cases h4
  ·rename_i last hlast
   refine⟨last,hlast,fun hp=> ?_⟩
   simp only[Bool.or_eq_true,decide_eq_true_eq]at h4;exact h4.resolve_left hp
 refine⟨by omega,?_,?_,by simpa using a2,hl⟩
 ·intro hn
  have hb:r.b= []:=by
   rcases h1.2 with h|h
   ·exact List.eq_nil_of_length_eq_zero (by omega)
   ·rw[hn]at h;cases h
  refine⟨hb,?_⟩;obtain⟨last,e1,-⟩:=hl;cases hp:r.p with
  |nil=>rfl
  |cons a p=>
   rw[hp,hb,jZ]at e1;split at e1
   ·cases e1
   ·rename_i hc
    simp at hc;omega
 ·intro f hf
  exact⟨a1 f hf,by simpa using h3 f hf⟩
structure Light (r:Rs):Prop where
 b:r.b.length<= 4000
 p:r.p.length<= 500
 f:(mG r.f).length+r.f.length<= 4000
 e: ∀f∈r.f,f.1.length<= 4000/\ f.2.length<= 4000
theorem EO (st:Int) (h:st<= 9223372036854775807):(iT st).length<= 100:=by
 have h1:=uy st.toNat (by omega)
 have h2:=uz st;rw[iT];simp only[List.length_append,PV,crlf,List.length_cons,List.length_nil];omega
theorem WE (r:Rs) (minor:Int) (h:r.b.length<= 9223372036854775807):(dM r minor).length<= 100:=by
 have h1:=uy r.b.length h;rw[dM];split
 ·simp
 ·split
  ·decide
  ·simp only[List.length_append,clS,clN,csB,crlf,List.length_cons,List.length_nil]
   omega
theorem WG (minor:Int) (close:Bool):(gX minor close).length<= 100:=by
 rw[gX];split
 ·decide
 ·split<;>decide
theorem QN (q:Bs) (h:q.length<= 9223372036854775807):(nI q).length<= q.length+20:=by
 rw[nI];split
 ·simp
 ·have:=D6 16 (by omega) 15 q.length (by omega)
  simp only[List.length_append,List.length_cons,List.length_nil];omega
theorem JE: ∀ps:List Bs,(∀q∈ps,q.length<= 9223372036854775807)->(AO ps).length<= ps.flatten.length+ps.length*20+5
 | [],_=>by simp[AO]
 |q::ps,h=>by
  have ih:=JE ps fun p hp=>h p (List.mem_cons_of_mem _ hp)
  have:=QN q (h q List.mem_cons_self);have e:(AO (q::ps)).length=(nI q).length+(AO ps).length:=by simp[AO]
  rw[e,List.length_cons,List.flatten_cons,List.length_append];omega
theorem BX (b:Bs): ∀(p:List Int) (at_:Int),(iF b at_ p).length=p.length/\ ∀q∈iF b at_ p,q.length<= b.length
 | [],_=>⟨rfl,by simp[iF]⟩
 |a::p,at_=>by
  have ih:=BX b p a;refine⟨by rw[iF,List.length_cons,ih.1,List.length_cons],?_⟩
  intro q hq;rw[iF,List.mem_cons]at hq;rcases hq with rfl|hq
  ·rw[List.length_drop,List.length_take];omega
  ·exact ih.2 q hq
theorem Ou (r:Rs) (h:Light r) (ho:dh r=true):(AO (iF r.b 0 r.p)).length<= 20000:=by
 obtain⟨-,-,-,-,last,hlast,-⟩:=rW r ho;have hb:=h.b;have hp:=h.p;obtain⟨c1,c2⟩:=BX r.b r.p 0;obtain⟨-,e2,-,-,e5,-⟩:=EN r.b r.p 0 last (by omega) (by omega) hlast
 have:=JE (iF r.b 0 r.p) fun q hq=>Nat.le_trans (c2 q hq) (by omega)
 have e3:(iF r.b 0 r.p).flatten.length<= r.b.length:=by
  have:=congrArg List.length e2;rw[List.length_append,List.length_take,List.length_take]at this;omega
 rw[c1]at this;omega
theorem WH (r:Rs) (h:Light r) (ho:dh r=true):((iF r.b 0 r.p).flatMap nI).length<= 1000000:=by
 have:=Ou r h ho;rw[AO,List.length_append]at this;omega
theorem rY (r:Rs) (head:Bool) (minor:Int) (close:Bool) (h:Light r) (ho:dh r=true):(vT r head minor close).length<= 65536:=by
 obtain⟨⟨a1,a2⟩,-⟩:=rW r ho;have h1:=EO r.st (by omega)
 have h2:=WE r minor (by have:=h.b;omega)
 have h3:=WG minor close;have hb:=h.b;have h4:(pG r head minor).length<= 20000:=by
  rw[pG];split
  ·simp
  ·split
   ·exact Ou r h ho
   ·omega
 have h5:=h.f;rw[vT,Ut];simp only[List.length_append,crlf,List.length_cons,List.length_nil]at*;omega
theorem yh (r:Rs) (head:Bool) (minor:Int) (close:Bool) (h:Light r):encR r head minor close=if dh r then(vT r head minor close,0)else([],1):=by
 rw[encR];split
 ·rename_i ho
  rw[if_neg (by have:=rY r head minor close h ho;omega)]
 ·rfl
def Ov (l:Bs):Prop:= ∃u,l=u++crlf
theorem Ov.app {a b:Bs} (h:Ov a) (hb:b= []\/ Ov b):Ov (a++b):=by
 rcases hb with rfl| ⟨u,rfl⟩
 ·rwa [List.append_nil]
 ·exact⟨a++u,by rw[List.append_assoc]⟩
def Ho (f:Fd):Bs:=f.1++ [58,32]++f.2++ [13,10]
def nZ (l:List Fd):Bs:=(l.map Ho).flatten
def Hq (first:Bs) (l:List Fd):Bs:=first++ [13,10]++nZ l++ [13,10]
def fsz:List Fd-> Nat
 | []=>0
 |f::l=>5+f.1.length+f.2.length+fsz l
theorem Ox (a b:List Fd):fsz (a++b)=fsz a+fsz b:=by
 induction a with
 |nil=>simp[fsz]
 |cons f a ih=>simp only[List.cons_append,fsz,ih];omega
theorem Oy (l:List Fd):l.length*5<= fsz l:=by
 induction l with
 |nil=>simp
 |cons f l ih=>simp only[List.length_cons,fsz];omega
theorem QO (l:List Fd):(nZ l).length<= fsz l:=by
 induction l with
 |nil=>simp[nZ]
 |cons f l ih=>simp only[nZ,List.map_cons,List.flatten_cons,List.length_append,fsz,Ho,List.length_cons,List.length_nil]at ih⊢;omega
theorem QT (a b:List Fd):nZ (a++b)=nZ a++nZ b:=by simp[nZ]
theorem take_at {α:Type} (l:List α) (k:Nat) (x:α) (h:l[k]? = some x):l.take (k+1)=l.take k++ [x]:=by
 rw[List.take_add_one,h];rfl
theorem WI (l:List Fd) (k:Nat):fsz (l.take k)<= fsz l:=by
 conv=>rhs;rw[<- List.take_append_drop k l,Ox]
 omega
theorem Y9 (l:List Fd) (f:Fd) (h:f∈l):f.1.length+f.2.length<= fsz l:=by
 induction l with
 |nil=>cases h
 |cons g l ih=>
  simp only[fsz];rcases List.mem_cons.1 h with rfl|h
  ·omega
  ·have:=ih h;omega
def BZ (w:World) (l:Bs) (e:Ending) (w':World):Prop:=
 ∃A n c,e= .returned (.slice A n c)/\ Own w' w.heap.size 5 1 (.slice A n c) n (l.map bv)/\ Below w.heap.size w w'
theorem WJ (l:Bs):(⟨l.toArray⟩:ByteArray).size=l.length:=by show l.toArray.size=l.length;simp
theorem WM (first:ByteArray) (A:Option Addr) (n cp:Nat) (l:List Fd) (w:World) (hA:Rd w w.heap.size 2 A n (aQ l)) (hf:first.size<= 10000) (hl:fsz l<= 10000):
 Calls Tryz.prog 28 #[.string first,.slice A n cp] w (BZ w (Hq first.data.toList l)):=by
 obtain⟨i0,hi,hz0,hz1,hz2⟩:=info_parts XI;have e1:l.length=n:=by have:=hA.1;rw[oD]at this;omega
 have hn5:=Oy l;have hf2:first.data.toList.length=first.size:=au first;have hs1:(first++⟨#[13,10]⟩:ByteArray).size=first.size+2:=by rw[ByteArray.size_append];rfl
 go_enter Tryz.func28,Tryz.ntmps28
 go_wp2_with (refine iM _ rfl (.tmp 9) 9 33 rfl 5 w.heap.size (first++⟨#[13,10]⟩:ByteArray) rfl Tryz.underlying9 Tryz.underlying33 Tryz.underlying5 (by rw[hs1];unfold maxLen;omega) (Nat.le_refl _) ?_
              intro cap w1 hcap ho1 hg1 hz1')
 have L1:=jJ hg1;have Ig:Own w1 w.heap.size 5 1 (.slice (some ⟨w.heap.size,0,none⟩) (first.size+2) cap) (first.size+2) ((first.data.toList++ [13,10]++nZ (l.take 0)).map bv):=by
  have e:first.data.toList++ [13,10]++nZ (l.take 0)=(first++⟨#[13,10]⟩:ByteArray).data.toList:=by rw[jL];simp[nZ]
  rw[e,<- hs1];exact ho1
 clear ho1 hg1 hz1' hcap;go_loopw [5,13] (fun v i wr=> ∃(k:Nat) (A1:Option Addr) (m c1:Nat),k<= n/\ i= .int .i64 k/\ v= .slice A1 m c1/\ Own wr w.heap.size 5 1 (.slice A1 m c1) m ((first.data.toList++ [13,10]++nZ (l.take k)).map bv)/\ Below w.heap.size w wr) (fun _ i _=>n- (intOf i).toNat)
 case atStart=>exact⟨0,_,_,_,Nat.zero_le _,rfl,rfl,Ig,L1⟩
 case round=>
  obtain⟨k,A1,m,c1,hk,rfl,rfl,ho,hb⟩:=hrel;have hm:m<= 20002:=by
   have h1:=ho.1;have h2:=QO (l.take k);have h3:=WI l k;simp at h1;omega
  have S1:=hb.size;by_cases hlt:k<n
  ·obtain⟨b1,o1,rfl,hb1,hx1⟩:=hA.2 (by omega)
   obtain⟨x,hx,-⟩:=nH l k (by omega)
   obtain⟨cx0,cx1⟩:=DX _ _ _ hx;have hw:=fun p hp=>hb.cell (p:=p) hp
   have cx:=(hw ⟨b1,o1+k*2,none⟩ hb1).trans (hx1 (k*2) _ cx0);have cx':=(hw ⟨b1,o1+(k*2+1),none⟩ hb1).trans (hx1 (k*2+1) _ cx1);rw[<- Nat.add_assoc]at cx';have hfm:=Y9 l x (List.mem_of_getElem? hx);have Ht:=Lib.hid (take_at l k x hx);clear hx1 cx0 cx1 hx hw;go_wp2_with fail
   refine(vH _ 4 4 (wr.heap.size+2) [⟨x.1.toArray⟩,⟨#[58,32]⟩,⟨x.2.toArray⟩,⟨#[13,10]⟩] _ (by simp) (Rd.new _ _ (by simp) [.string ⟨x.1.toArray⟩,.string ⟨#[58,32]⟩,.string ⟨x.2.toArray⟩,.string ⟨#[13,10]⟩] 9 4 1 rfl) (by decide) (by simp;omega) (by decide)).mono ?_
   rintro e w2 ⟨rfl,L2⟩;have ho2:=((ho.alloc (.cells #[sv x.1,sv x.2] 86)).alloc (.cells #[.string ⟨x.1.toArray⟩,.string ⟨#[58,32]⟩,.string ⟨x.2.toArray⟩,.string ⟨#[13,10]⟩] 9)).ah L2;have hb2:=stepW (aj (aj hb (.cells #[sv x.1,sv x.2] 86)) (.cells #[.string ⟨x.1.toArray⟩,.string ⟨#[58,32]⟩,.string ⟨x.2.toArray⟩,.string ⟨#[13,10]⟩] 9)) L2;have hlx:(List.map (fun x=>x.data.toList) [(⟨x.1.toArray⟩:ByteArray),⟨#[58,32]⟩,⟨x.2.toArray⟩,⟨#[13,10]⟩]).flatten=Ho x:=by simp[Ho]
   rw[hlx];have hlen:(Ho x).length<= 10004:=by simp[Ho];omega
   clear L2 ho hb
   go_wp2_with (at_builtin
                go_must (
                 refine aJ _ rfl (.tmp 17) (.tmp 23) 33 9 rfl w.heap.size 5 i0 _ 1 1 Tryz.underlying33 (.inr Tryz.underlying9) hi hz0 hz1 hz2 rfl (by decide) (.slice A1 m c1) _ _ rfl ho2 _ (Ho x).length ((Ho x).map bv) rfl (Src.of_string _) (by unfold maxLen;omega) (by omega) hb2.size ?_
                 intro v3 w3 ho3 hg3 Mc;obtain⟨A3,c3,hv3,n3,m3,r3,q3⟩:=ho3.rd
                 subst hv3))
   go_roundw
   case rel=>
    refine⟨k+1,A3,m+(Ho x).length,c3,by omega,by go_num,rfl,?_,DC hb2 hg3 (fun j hj=>(ho2.lt j hj).1)⟩
    rw[Ht.out,QT];simpa [nZ] using ho3
   case measure=>simp[intOf];omega
  ·have hkn:k=n:=by omega
   subst hkn;have hall:l.take k=l:=List.take_of_length_le (by omega)
   rw[hall]at ho
   go_wp2_with (at_builtin
                go_must (
                 refine aJ _ rfl (.tmp 26) (.const (.string ⟨#[13,10]⟩)) 33 9 rfl w.heap.size 5 i0 _ 1 1 Tryz.underlying33 (.inr Tryz.underlying9) hi hz0 hz1 hz2 rfl (by decide) (.slice A1 m c1) _ _ rfl ho _ 2 ([13,10].map bv) rfl (Src.of_string [13,10]) (by unfold maxLen;omega) (by omega) hb.size ?_
                 intro v3 w3 ho3 hg3 Mc;obtain⟨A3,c3,hv3,n3,m3,r3,q3⟩:=ho3.rd
                 subst hv3))
   go_ret
   refine⟨A3,m+2,c3,rfl,?_,DC hb hg3 (fun j hj=>(ho.lt j hj).1)⟩
   simpa [Hq] using ho3
theorem Own.litC (w:World) (g:Nat) (hg:g=w.heap.size) (base:Nat) (hb:base<= g) (e:TypeId) (size n:Nat) (cs:List Value) (hs:cs.length=n*size) (hn:n<= maxLen):Own (w.alloc (.cells cs.toArray e)) base e size (.slice (some ⟨g,0,none⟩) n n) n cs:=
 ⟨hs,.inr ⟨g,n,cs.toArray,(0,0),rfl,hb,by rw[hg];exact heap_alloc_new w _,.inl (Nat.le_refl _),Nat.le_refl _,hn,by simpa using hs,by rw[List.take_of_length_le (by simp;omega)]⟩⟩
def Cb:Fd:=([72,111,115,116],[117,115,104,101,114])
def MQ (p:Bs) (l:List Fd):Bs:=Hq ([71,69,84,32]++p++ [32,72,84,84,80,47,49,46,49]) (Cb::l)
theorem Za (path:ByteArray) (A:Option Addr) (n cp:Nat) (l:List Fd) (w:World) (hA:Rd w w.heap.size 2 A n (aQ l)) (hp:path.size<= 4000) (hl:fsz l<= 4000):
 Calls Tryz.prog 9 #[.string path,.slice A n cp] w (BZ w (MQ path.data.toList l)):=by
 obtain⟨i0,hi,hz0,hz1,hz2⟩:=info_parts vJ;have e1:l.length=n:=by have:=hA.1;rw[oD]at this;omega
 have hn5:=Oy l;go_enter Tryz.func9,Tryz.ntmps9
 go_wp2_with fail
 refine(vH _ 3 3 (w.heap.size+1) [⟨#[71,69,84,32]⟩,path,⟨#[32,72,84,84,80,47,49,46,49]⟩] _ (by simp) (Rd.new _ _ (by simp) [.string ⟨#[71,69,84,32]⟩,.string path,.string ⟨#[32,72,84,84,80,47,49,46,49]⟩] 9 3 1 rfl) (by decide) (by simp;omega) (by decide)).mono ?_
 rintro e w2 ⟨rfl,L2⟩;have L2':=stepW (aj (Below.refl w.heap.size w) _) L2;have hA2:=hA.below L2';clear L2
 go_wp2_with (at_builtin
              go_must (
               refine aJ _ rfl (.tmp 9) (.tmp 10) 52 52 rfl w.heap.size 86 i0 _ 2 32 Tryz.underlying52 (.inl Tryz.underlying52) hi hz0 hz1 hz2 rfl (by decide) (.slice (some ⟨w2.heap.size,0,none⟩) 1 1) 1 (aQ [Cb]) rfl (Own.litC _ _ rfl _ L2'.size _ 2 1 (aQ [Cb]) rfl (by decide)) _ n (aQ l) rfl (Src.fB (hA2.alloc L2'.size _) (jC _)) (by unfold maxLen;omega) (by omega) (by have:=L2'.size;simp;omega) ?_
               intro v3 w3 ho3 hg3 Mc;obtain⟨A3,c3,hv3,n3,m3,r3,q3⟩:=ho3.rd
               subst hv3))
 have L3:Below w.heap.size w w3:=DC (aj L2' _) hg3 (fun j hj=>by cases hj;exact L2'.size)
 rw[<- oG]at r3;have hfz:fsz ([Cb]++l)<= 10000:=by rw[Ox];simp[fsz,Cb];omega
 clear hg3 Mc ho3;go_wp2_with fail
 refine(WM ⟨(71::69::84::32::(path.data.toList++ [32,72,84,84,80,47,49,46,49])).toArray⟩ A3 (1+n) c3 ([Cb]++l) w3 r3 (by rw[WJ];simp only[List.length_cons,List.length_append,List.length_nil,au];omega) hfz).mono ?_
 rintro e w4 ⟨A4,n4,c4,rfl,ho4,L4⟩;have e5:Hq ([71,69,84,32]++path.data.toList++ [32,72,84,84,80,47,49,46,49]) ([Cb]++l)=MQ path.data.toList l:=rfl;rw[List.toList_toArray,show(71::69::84::32::(path.data.toList++ [32,72,84,84,80,47,49,46,49]):Bs)= [71,69,84,32]++path.data.toList++ [32,72,84,84,80,47,49,46,49]from rfl,e5]at ho4
 clear e5;go_wp2
 go_ret
 exact⟨A4,n4,c4,rfl,ho4.vC L3.size,stepW L3 L4⟩
end Go.Proofs.YtdmondfpepbniaaGreatDoor
