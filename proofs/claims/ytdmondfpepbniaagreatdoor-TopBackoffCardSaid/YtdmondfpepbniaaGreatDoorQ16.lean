/- Part 16 of the proof: RfC. -/
import Derived.Test.YtdmondfpepbniaaGreatDoorQ12
import Derived.Test.YtdmondfpepbniaaGreatDoorQ14
import Derived.Test.YtdmondfpepbniaaGreatDoorQ15
namespace Go.Proofs.YtdmondfpepbniaaGreatDoor
open Go.RowKit
set_option maxRecDepth 100000
set_option maxHeartbeats 4000000
set_option linter.all false
theorem VA:(Tryz.prog.info? 3).map (fun i=>(i.zero,i.size,i.bytes))=some (some (.int .i64 0),1,8):=by kernel_rfl
theorem aas (l:List Int): ∀u∈l.map iv,u.oneCell'=true:=by
 intro u hu;obtain⟨x,-,rfl⟩:=List.mem_map.1 hu;rfl
theorem Qp {ops:Array Oper} {o:Oper} {a:Act} {w0 w:World} {K:Act-> World-> Prop} {Q:Exit-> Act-> World-> Prop} {E:Prop} (hgd:o.guard=none) (s x:Operand)
 (ho:o.op= .call { callee:=.builtin .append,args:=#[s,x],argTypes:=#[34,34] })
 (base:Nat) (v:Value) (l:List Int) (hs:a.eval s=v) (hown:OI w0 base v l) (hw:Below w0.heap.size w0 w) (A:Option Addr) (n c B:Nat) (hx:a.eval x= .slice A n c) (m:List Int) (hr:Rd w B 1 A n (m.map iv))
 (hlen:l.length+m.length<= 10000000) (hbase:base<= w0.heap.size)
 (hK: ∀v' w',OI w' base v' (l++m)-> Ext w0 w' v v'-> K (a.put o.dst v') w'):
 if Region.wanted o (yielded ops a.tmps)=true then Oper.wp Tryz.prog o a w K Q else E:=by
 have hwt:Region.wanted o (yielded ops a.tmps)=true:=by simp[Region.wanted,hgd]
 rw[if_pos hwt];have hn:m.length=n:=by simpa using hr.1
 subst hn;obtain⟨i0,hi,hz0,hz1,hz2⟩:=info_parts VA;obtain⟨v',w',hrun,h2,h3,h4⟩:=gy (P:=Tryz.prog) w base 34 34 o.type 3 i0 _ 1 8 Tryz.underlying34 (.inl Tryz.underlying34) hi hz0 hz1 hz2 rfl (by decide) v l.length _ (hown.ah hw) (.slice A m.length c) m.length _ (Src.fB hr (aas m)) (by unfold maxLen;omega) (by omega) (Nat.le_trans hbase hw.size)
 have e:(l.map iv++m.map iv)=(l++m).map iv:=by simp
 rw[e]at h2;have key:=hK v' w' (by unfold OI;rw[List.length_append];exact h2) (oH hw h3 h4)
 unfold Oper.wp;simp[execOp,ho,resolve,invoke,builtin,hs,hx,hrun,Result.andThen];exact key
theorem OI.form {w:World} {base:Nat} {v:Value} {l:List Int} (h:OI w base v l): ∃A c,v= .slice A l.length c/\ l.length<= c/\ c<= maxLen/\ Rd w w.heap.size 1 A l.length (l.map iv):=by
 obtain⟨A,c,h1,h2,h3,h4,_⟩:=Own.rd h;exact⟨A,c,h1,h2,h3,h4⟩
theorem RM.part {w1 w3:World} {g:Nat} {P:Bs} {hd:Bool} {x:RPl} {k:Nat} {s:RSt} {n:Int} {v':Value} (q:RM w1 g P hd x k s) (hx:Ext w1 w3 x.vp v') (ho:OI w3 (g+1) v' (s.q++ [n])) (hk:s.q.length+1<= k):
 RM (w3.setCell ⟨g,6,none⟩ v') g P hd { x with vp:=v' } k { s with q:=s.q++ [n] } :=by
 refine RM.of ((q.rk.extP hx ho).ay 6 v') (by simp[jH]) q.cap q.at_ q.rest q.nf q.nd ?_ q.st0
 simp only[List.length_append,List.length_singleton];exact hk
theorem Qq {w:World} {g:Nat} {P:Bs} {hd:Bool} {s:RSt} (q:RdT w g P hd s) (hP:P.length<= 1000000) (hd0:s.d= []) (hq0:s.q= []):
 Calls Tryz.prog 104 #[.pointer (some ⟨g,0,none⟩)] w (kK w g P hd (fU (s.r.length+1) [] [] s.r) (fun _=>.tuple #[]) (fun a r=> { s with r:=r,d:=a.1,q:=a.2 })):=by
 have hgl:=q.lt;have q0:RdT w g P hd { s with d:= [],q:= [] } :=by rw[<- hd0,<- hq0];exact q
 clear q;obtain⟨N,hN⟩: ∃N,N=s.r.length+1:=⟨_,rfl⟩;rw[<- hN];have HN:=Lib.hid hN;clear hN hd0 hq0;go_enter Tryz.func104,Tryz.ntmps104
 go_wp2_with fail
 go_loopg [] N (fun gk wr=> ∃(D:Bs) (Q:List Int) (r:Bs),r.length<gk/\ Hid (fU N [] [] s.r=fU gk D Q r)/\ RdT wr g P hd { s with r:=r,d:=D,q:=Q } /\ Below g w wr)
 case atStart=>exact⟨[],[],s.r,by rw[HN.out];exact Nat.lt_succ_self _,rfl,q0,Below.refl _ _⟩
 case round=>
  obtain⟨D,Q,r,hr,HF,q1,hb⟩:=hrel;obtain⟨m,rfl⟩: ∃m,gk=m+1:=⟨gk-1,by omega⟩
  have HX:=Lib.hid (HF.out.trans (YH m D Q r));have hqr:Q.length+r.length<= P.length:=by obtain⟨x1,k1,q1⟩:=q1;have h1:=q1.nq;have h2:=q1.at_;simp only[]at h1 h2;omega
  clear HF;go_wp2_with fail
  refine(Ei 163 hxB aan 12 q1 hP (by decide)).mono ?_
  intro e w1 h1;rcases aN h1 with⟨hx,rfl,L⟩| ⟨hx,rfl,L⟩| ⟨s1,t1,hx,rfl,q2,L1⟩
  ·exact⟨rfl,aA (by rw[HX.out,hx.out];rfl) (hb.trans L)⟩
  ·exact⟨rfl,aC (by rw[HX.out,hx.out];rfl) (hb.trans L)⟩
  ·have HY:=Lib.hid (show fU N [] [] s.r=(if s1= [48]/\ Q= []then .bad else(aK crlf t1).bind fun _ t=>
    if s1= [48]then(aK crlf t).bind fun _ t=>.ok (D,Q) t
    else(jm (hexV s1) t).bind fun d t=>(aK crlf t).bind fun _ t=>fU m (D++d) (Q++ [((D++d).length:Int)]) t) by rw[HX.out,hx.out];rfl)
   have hb1:=hb.trans L1;have hsl:s1.length+t1.length=r.length/\ 1<= s1.length:=Jo _ _ _ _ _ hx.out;have hsx:=Vj _ _ _ hx.out;clear HX hx h1 hb L1;obtain⟨x2,k2,q3⟩:=q2;obtain⟨Ap,cp,hvp,-,-,-⟩:=q3.oi.form;obtain⟨-,-,-,-,-,-,j6,-⟩:=q3.c8;rw[hvp]at j6;have q2:RdT w1 g P hd { s with r:=t1,d:=D,q:=Q } :=⟨x2,k2,q3⟩
   clear hvp q3;by_cases h48:s1= [48]
   ·subst h48
    by_cases hQ:Q= []
    ·subst hQ
     have HE:=Lib.hid (show fU N [] [] s.r= .bad by rw[HY.out,if_pos ⟨rfl,rfl⟩])
     go_wp2_with fail
     refine(cO 8 _).mono ?_;rintro e w2 ⟨rfl,rfl⟩;exact⟨rfl,aC HE.out hb1⟩
    ·have HE:=Lib.hid (show fU N [] [] s.r=(aK crlf t1).bind fun _ t=>(aK crlf t).bind fun _ t=>.ok (D,Q) t by rw[HY.out,if_neg (fun e=>hQ e.2)];rfl)
     have hQl: ¬Q.length=0:=by rw[List.length_eq_zero_iff];exact hQ
     have hQi: ¬(Q.length:Int)=0:=by omega
     clear hQ HY;go_wp2_with fail
     refine(ig crlf q2 hP (by decide)).mono ?_
     intro e w3 h3;rcases aN h3 with⟨hx,rfl,L⟩| ⟨hx,rfl,L⟩| ⟨_,t3,hx,rfl,q3,L3⟩
     ·exact⟨rfl,aA (by rw[HE.out,hx.out];rfl) (hb1.trans L)⟩
     ·exact⟨rfl,aC (by rw[HE.out,hx.out];rfl) (hb1.trans L)⟩
     ·have HE2:=Lib.hid (show fU N [] [] s.r=(aK crlf t3).bind fun _ t=>.ok (D,Q) t by rw[HE.out,hx.out];rfl)
      have hb3:=hb1.trans L3;clear HE hx h3 L3;go_wp2_with fail
      refine(ig crlf q3 hP (by decide)).mono ?_
      intro e w4 h4;rcases aN h4 with⟨hx,rfl,L⟩| ⟨hx,rfl,L⟩| ⟨_,t5,hx,rfl,q5,L5⟩
      ·exact⟨rfl,aA (by rw[HE2.out,hx.out];rfl) (hb3.trans L)⟩
      ·exact⟨rfl,aC (by rw[HE2.out,hx.out];rfl) (hb3.trans L)⟩
      ·go_wp2
       go_end0
       exact bM (by rw[HE2.out,hx.out];rfl) rfl (hb3.trans L5) q5
   ·have HE:=Lib.hid (show fU N [] [] s.r=(aK crlf t1).bind fun _ t=>(jm (hexV s1) t).bind fun d t=>(aK crlf t).bind fun _ t=>fU m (D++d) (Q++ [((D++d).length:Int)]) t by
     rw[HY.out,if_neg (fun e=>h48 e.1)];simp only[if_neg h48])
    have hn1:(s1== [48])=false:=by simpa using h48
    have hn2: ¬(s1.toArray= #[48]):=by simpa using h48
    obtain⟨hnum,hnle⟩:=YI s1 hsl.2 hsx.1 hsx.2;have hhx:=fun w=>ru ⟨s1.toArray⟩ w (by show s1.toArray.size<= _;have:=hsx.1;unfold maxLen;simp;omega)
    rw[show(⟨s1.toArray⟩:ByteArray).data.toList=s1 from rfl,hnum,CY]at hhx
    simp only[Option.getD_some,Option.isSome_some]at hhx;have hsl1:t1.length+1<= r.length:=by omega
    clear h48 HY hnum hsx hsl;go_wp2_with fail
    refine(ig crlf q2 hP (by decide)).mono ?_
    intro e w3 h3;rcases aN h3 with⟨hx,rfl,L⟩| ⟨hx,rfl,L⟩| ⟨_,t3,hx,rfl,q3,L3⟩
    ·exact⟨rfl,aA (by rw[HE.out,hx.out];rfl) (hb1.trans L)⟩
    ·exact⟨rfl,aC (by rw[HE.out,hx.out];rfl) (hb1.trans L)⟩
    ·have HE2:=Lib.hid (show fU N [] [] s.r=(jm (hexV s1) t3).bind fun d t=>(aK crlf t).bind fun _ t=>fU m (D++d) (Q++ [((D++d).length:Int)]) t by rw[HE.out,hx.out];rfl)
     have hb3:=hb1.trans L3;have ht3:=congrArg List.length (qP _ _ _ hx.out);rw[List.length_append]at ht3;clear HE hx h3 L3 j6;go_wp2_with fail
     refine(hhx _).mono ?_;rintro e w4 ⟨rfl,L4⟩;have hb4:=hb3.trans (L4.mono (Nat.le_of_lt q3.lt));have q4:=q3.ah L4;generalize hexV s1=hv at*;clear L4 hhx q3;go_wp2_with fail
     refine(Oe hv q4 hP (Nat.le_trans hnle (by decide))).mono ?_
     intro e w5 h5;rcases aN h5 with⟨hx,rfl,L⟩| ⟨hx,rfl,L⟩| ⟨d,t5,hx,rfl,q5,L5⟩
     ·exact⟨rfl,aA (by rw[HE2.out,hx.out];rfl) (hb4.trans L)⟩
     ·exact⟨rfl,aC (by rw[HE2.out,hx.out];rfl) (hb4.trans L)⟩
     ·have HE3:=Lib.hid (show fU N [] [] s.r=(aK crlf t5).bind fun _ t=>fU m (D++d) (Q++ [((D++d).length:Int)]) t by rw[HE2.out,hx.out];rfl)
      have hb5:=hb4.trans L5;have ht5:t5.length<= t3.length:=Vz _ _ _ _ hx.out;clear HE2 hx h5 L5 q4;obtain⟨x6,k6,q6⟩:=q5;have hk6:=q6.at_;simp only[]at hk6;obtain⟨Aq,cq,hvq,-,-,-⟩:=q6.oi.form;obtain⟨Ad,cd,hvd,-,-,-⟩:=q6.ob.form;obtain⟨-,-,-,-,-,j5,j6,-,-,-,-,-,-,-,i6,-⟩:=q6.c8;rw[hvd]at j5;rw[hvq]at j6;have ho6:=q6.oi;rw[hvq]at ho6;have HVQ:=Lib.hid hvq;have hg6:g<w5.heap.size:=q6.lt;have hg7: ¬g=w5.heap.size:=Nat.ne_of_lt q6.lt;have hQk:Q.length+1<= k6:=by omega
      generalize hDd:D++d=Dd at*;clear hvq hvd hDd;go_wp2_with fail
      go_region_law (refine Qp rfl (.tmp 38) (.tmp 45) rfl (g+1) (.slice Aq Q.length cq) Q rfl ho6 (aj ((Below.refl _ _).drew) _) _ 1 1 (w5.heap.size+1) rfl [(Dd.length:Int)] (Rd.new w5.drew _ rfl [iv (Dd.length:Int)] _ 1 1 rfl) (by simp;omega) q6.lt ?_;intro v' w7 ho7 hx7;obtain⟨A7,c7,hv7,-,-,-⟩:=ho7.form;rw[show(Q++ [(Dd.length:Int)]).length=Q.length+1 by simp]at hv7;subst hv7;have B7:=q6.blk.fr hx7.fr (fun e=>by have:=(ho6.lt _ e).1;omega);obtain⟨-,-,-,-,-,-,z6,-,-,-,-,-,-,-,y6,-⟩:=Blk.c8 B7;clear B7)
      all_goals
       have hx8:=hx7;rw[<- HVQ.out]at hx8;have q8:=RM.part q6 hx8 ho7 hQk;have hb8:Below g w (w7.setCell ⟨g,6,none⟩ (.slice A7 (Q.length+1) c7)):=(hb5.trans (hx7.below ho6 (Nat.le_succ g) (Nat.le_of_lt hg6))).setCell (Nat.le_refl _) _;clear hx8 hx7 ho7 q6 z6 y6;go_wp2_with fail
       refine(ig crlf ⟨_,_,q8⟩ hP (by decide)).mono ?_
       intro e w9 h9;rcases aN h9 with⟨hx,rfl,L⟩| ⟨hx,rfl,L⟩| ⟨_,t9,hx,rfl,q9,L9⟩
       ·exact⟨rfl,aA (by rw[HE3.out,hx.out];rfl) (hb8.trans L)⟩
       ·exact⟨rfl,aC (by rw[HE3.out,hx.out];rfl) (hb8.trans L)⟩
       ·have HE4:=Lib.hid (show fU N [] [] s.r=fU m Dd (Q++ [(Dd.length:Int)]) t9 by rw[HE3.out,hx.out];rfl)
        have ht9:t9.length<= t5.length:=by have:=congrArg List.length (qP _ _ _ hx.out);rw[List.length_append]at this;simp only[]at this;omega
        go_wp2
        go_roundg m
        case rel=>exact⟨Dd,Q++ [(Dd.length:Int)],t9,by omega,HE4,q9,hb8.trans L9⟩
        case measure=>omega
theorem aau (b:UInt8) (h:dgB b=true):0<= bD b.toNat/\ bD b.toNat<10:=by
 have h2:=U0 (fun b=> !dgB b||decide (0<= bD b.toNat/\ bD b.toNat<10)) (by decide +kernel) b
 simp[h]at h2;exact h2
theorem Es: ∀(l:Bs) (n:Int),0<= n-> l.all dgB=true-> ∃v,jM 10 l n=some v/\ 0<= v/\ v+1<=(n+1)*(10:Int) ^ l.length
 | [],n,h,_=>⟨n,rfl,h,by simp⟩
 |b::l,n,h,ha=>by
  simp only[List.all_cons,Bool.and_eq_true]at ha;obtain⟨h1,h2⟩:=aau b ha.1;obtain⟨v,hv,h0,hle⟩:=Es l (n*10+bD b.toNat) (by omega) ha.2
  refine⟨v,by rw[jM,if_neg (by omega),hv],h0,Int.le_trans hle ?_⟩
  rw[List.length_cons,Int.pow_succ,<- Int.mul_assoc,Int.mul_right_comm];exact Int.mul_le_mul_of_nonneg_right (by omega) (Int.le_of_lt (Int.pow_pos (by decide)))
theorem YJ (s:Bs) (h1:1<= s.length) (h2:s.length<= 15) (ha:s.all dgB=true):dA 10 15 s=some (Gm s:Int)/\ Gm s<= 281474976710656*4:=by
 obtain⟨v,hv,h0,hle⟩:=Es s 0 (by omega) ha
 have hp:(10:Int) ^ s.length<= 10 ^ 15:=by exact_mod_cast Nat.pow_le_pow_right (n:=10) (by decide) h2
 have hn:dA 10 15 s=some v:=by rw[dA,if_neg (by omega),hv]
 have e:(10:Int) ^ 15=1000000000000000:=by decide
 refine⟨?_,?_⟩
 ·rw[Gm,hn];simp;omega
 ·rw[Gm,hn];simp;omega
theorem VB (r s t:Bs) (h:jl 15 dgB r= .ok s t):s.length<= 15/\ s.all dgB=true:=by
 cases r with
 |nil=>cases h
 |cons c r=>
  rw[jl]at h;split at h
  ·cases h;decide
  ·split at h
   ·cases h
   ·cases h
    refine⟨?_,List.all_takeWhile⟩;have:=(List.takeWhile_sublist dgB (l:=(c::r).take 15)).length_le;rw[List.length_take]at this;omega
def aav (w:World) (g:Nat) (P:Bs) (hd:Bool) (x:R3 (Rs×Bool)) (e:Ending) (w':World):Prop:=
 kK w g P hd x (fun _=>.tuple #[]) (fun a r=>⟨r,a.1.st,a.1.f,a.1.b,a.1.p,a.2⟩) e w'
theorem RdT.c2 {w:World} {g:Nat} {P:Bs} {hd:Bool} {s:RSt} (q:RdT w g P hd s):w.cell? ⟨g,2,none⟩=some (.bool hd):=by
 obtain⟨x,k,q⟩:=q;exact q.c8.2.2.1
theorem VD {w:World} {g:Nat} {P:Bs} {hd:Bool} {r:Bs} (q:RdT w g P hd ⟨r,0,[],[],[],false⟩) (hP:P.length<= 1000000):
 Calls Tryz.prog 59 #[.pointer (some ⟨g,0,none⟩)] w (aav w g P hd (lC hd r)):=by
 have hgl:=q.lt;have HX:=Lib.hid (show lC hd r=(dX r).bind fun st t=>(eP (bW st) (t.length+1) [] t).bind fun x t=>AP hd st x.1 x.2 t from rfl)
 go_enter Tryz.func59,Tryz.ntmps59
 go_wp2_with fail
 refine(Qo q hP rfl).mono ?_;intro e w1 h1;rcases aN h1 with⟨hx,rfl,L⟩| ⟨hx,rfl,L⟩| ⟨st,t1,hx,rfl,q1,L1⟩
 ·exact⟨rfl,aA (by rw[HX.out,hx.out];rfl) L⟩
 ·exact⟨rfl,aC (by rw[HX.out,hx.out];rfl) L⟩
 ·have HY:=Lib.hid (show lC hd r=(eP (bW st) (t1.length+1) [] t1).bind fun x t=>AP hd st x.1 x.2 t by rw[HX.out,hx.out];rfl)
  clear HX hx h1;go_wp2_with fail
  refine(Qm q1 hP rfl).mono ?_;intro e w2 h2;rcases aN h2 with⟨hx,rfl,L⟩| ⟨hx,rfl,L⟩| ⟨⟨fs,wh⟩,t2,hx,rfl,q2,L2⟩
  ·exact⟨rfl,aA (by rw[HY.out,hx.out];rfl) (L1.trans L)⟩
  ·exact⟨rfl,aC (by rw[HY.out,hx.out];rfl) (L1.trans L)⟩
  ·have HZ:=Lib.hid (show lC hd r=AP hd st fs wh t2 by rw[HY.out,hx.out];rfl)
   have hb2:=L1.trans L2;have q3:RdT w2 g P hd ⟨t2,st,fs,[],[],false⟩:=q2;clear HY hx h2 L1 L2 q2;by_cases hte:wh=teN
   ·subst hte
    have HE:=Lib.hid (show lC hd r=(aK (teN++(chB++crlf)) t2).bind fun _ t=>(iR true t).bind fun e t=>if hd then .ok (⟨st,fs,[],[]⟩,e) t else(fU (t.length+1) [] [] t).bind fun x t=>.ok (⟨st,fs,x.1,x.2⟩,e) t by rw[HZ.out,AP,if_pos rfl])
    clear HZ;go_wp2_with fail
    refine(ig (teN++(chB++crlf)) q3 hP (by decide)).mono ?_
    intro e w4 h4;rcases aN h4 with⟨hx,rfl,L⟩| ⟨hx,rfl,L⟩| ⟨_,t4,hx,rfl,q4,L4⟩
    ·exact⟨rfl,aA (by rw[HE.out,hx.out];rfl) (hb2.trans L)⟩
    ·exact⟨rfl,aC (by rw[HE.out,hx.out];rfl) (hb2.trans L)⟩
    ·have HE2:=Lib.hid (show lC hd r=(iR true t4).bind fun e t=>if hd then .ok (⟨st,fs,[],[]⟩,e) t else(fU (t.length+1) [] [] t).bind fun x t=>.ok (⟨st,fs,x.1,x.2⟩,e) t by rw[HE.out,hx.out];rfl)
     have hb4:=hb2.trans L4;clear HE hx h4 L4 hb2;go_wp2_with fail
     refine(Gx true q4 hP rfl).mono ?_;intro e w5 h5;rcases aN h5 with⟨hx,rfl,L⟩| ⟨hx,rfl,L⟩| ⟨en,t5,hx,rfl,q5,L5⟩
     ·exact⟨rfl,aA (by rw[HE2.out,hx.out];rfl) (hb4.trans L)⟩
     ·exact⟨rfl,aC (by rw[HE2.out,hx.out];rfl) (hb4.trans L)⟩
     ·have HE3:=Lib.hid (show lC hd r=if hd then .ok (⟨st,fs,[],[]⟩,en) t5 else(fU (t5.length+1) [] [] t5).bind fun x t=>.ok (⟨st,fs,x.1,x.2⟩,en) t by rw[HE2.out,hx.out];rfl)
      have hb5:=hb4.trans L5;have c2:=q5.c2;clear HE2 hx h5 L5 hb4;cases hd
      ·go_wp2_with fail
       refine(Qq q5 hP rfl rfl).mono ?_;intro e w6 h6;rcases aN h6 with⟨hx,rfl,L⟩| ⟨hx,rfl,L⟩| ⟨y,t6,hx,rfl,q6,L6⟩
       ·exact⟨rfl,aA (by rw[HE3.out,if_neg (by simp),hx.out];rfl) (hb5.trans L)⟩
       ·exact⟨rfl,aC (by rw[HE3.out,if_neg (by simp),hx.out];rfl) (hb5.trans L)⟩
       ·go_wp2
        go_end0
        exact bM (by rw[HE3.out,if_neg (by simp),hx.out];rfl) rfl (hb5.trans L6) q6
      ·go_wp2
       go_end0
       exact bM (HE3.out.trans (if_pos (by simp))) rfl hb5 q5
   ·by_cases hcl:wh=clN
    ·subst hcl
     have HE:=Lib.hid (show lC hd r=(aK (clN++csB) t2).bind fun _ t=>(jl 15 dgB t).bind fun s t=>(aK crlf t).bind fun _ t=>(iR false t).bind fun e t=>if hd then .ok (⟨st,fs,[],[]⟩,e) t else(jm (Gm s) t).bind fun d t=>.ok (⟨st,fs,d,[]⟩,e) t by rw[HZ.out,AP,if_neg hte,if_pos rfl])
     clear HZ hte;go_wp2_with fail
     refine(ig (clN++csB) q3 hP (by decide)).mono ?_
     intro e w4 h4;rcases aN h4 with⟨hx,rfl,L⟩| ⟨hx,rfl,L⟩| ⟨_,t4,hx,rfl,q4,L4⟩
     ·exact⟨rfl,aA (by rw[HE.out,hx.out];rfl) (hb2.trans L)⟩
     ·exact⟨rfl,aC (by rw[HE.out,hx.out];rfl) (hb2.trans L)⟩
     ·have HE2:=Lib.hid (show lC hd r=(jl 15 dgB t4).bind fun s t=>(aK crlf t).bind fun _ t=>(iR false t).bind fun e t=>if hd then .ok (⟨st,fs,[],[]⟩,e) t else(jm (Gm s) t).bind fun d t=>.ok (⟨st,fs,d,[]⟩,e) t by rw[HE.out,hx.out];rfl)
      have hb4:=hb2.trans L4;clear HE hx h4 L4 hb2;go_wp2_with fail
      refine(Ei 107 dgB U1 15 q4 hP (by decide)).mono ?_
      intro e w5 h5;rcases aN h5 with⟨hx,rfl,L⟩| ⟨hx,rfl,L⟩| ⟨s5,t5,hx,rfl,q5,L5⟩
      ·exact⟨rfl,aA (by rw[HE2.out,hx.out];rfl) (hb4.trans L)⟩
      ·exact⟨rfl,aC (by rw[HE2.out,hx.out];rfl) (hb4.trans L)⟩
      ·have HE3:=Lib.hid (show lC hd r=(aK crlf t5).bind fun _ t=>(iR false t).bind fun e t=>if hd then .ok (⟨st,fs,[],[]⟩,e) t else(jm (Gm s5) t).bind fun d t=>.ok (⟨st,fs,d,[]⟩,e) t by rw[HE2.out,hx.out];rfl)
       have hb5:=hb4.trans L5;have hsl:=Jo _ _ _ _ _ hx.out;have hsx:=VB _ _ _ hx.out;obtain⟨hnum,hnle⟩:=YJ s5 hsl.2 hsx.1 hsx.2;have hnm:=fun w=>FB ⟨s5.toArray⟩ w (by show s5.toArray.size<= _;have:=hsx.1;unfold maxLen;simp;omega)
       rw[show(⟨s5.toArray⟩:ByteArray).data.toList=s5 from rfl,hnum,CY]at hnm
       simp only[Option.getD_some,Option.isSome_some]at hnm;generalize Gm s5=nv at*;clear HE2 hx h5 L5 hb4 hnum hsx hsl;go_wp2_with fail
       refine(hnm _).mono ?_;rintro e w6 ⟨rfl,L6⟩;have hb6:=hb5.trans (L6.mono (Nat.le_of_lt q5.lt));have q6:=q5.ah L6;clear hnm L6 q5 hb5;go_wp2_with fail
       refine(ig crlf q6 hP (by decide)).mono ?_
       intro e w7 h7;rcases aN h7 with⟨hx,rfl,L⟩| ⟨hx,rfl,L⟩| ⟨_,t7,hx,rfl,q7,L7⟩
       ·exact⟨rfl,aA (by rw[HE3.out,hx.out];rfl) (hb6.trans L)⟩
       ·exact⟨rfl,aC (by rw[HE3.out,hx.out];rfl) (hb6.trans L)⟩
       ·have HE4:=Lib.hid (show lC hd r=(iR false t7).bind fun e t=>if hd then .ok (⟨st,fs,[],[]⟩,e) t else(jm nv t).bind fun d t=>.ok (⟨st,fs,d,[]⟩,e) t by rw[HE3.out,hx.out];rfl)
        have hb7:=hb6.trans L7;clear HE3 hx h7 L7 hb6;go_wp2_with fail
        refine(Gx false q7 hP rfl).mono ?_;intro e w8 h8;rcases aN h8 with⟨hx,rfl,L⟩| ⟨hx,rfl,L⟩| ⟨en,t8,hx,rfl,q8,L8⟩
        ·exact⟨rfl,aA (by rw[HE4.out,hx.out];rfl) (hb7.trans L)⟩
        ·exact⟨rfl,aC (by rw[HE4.out,hx.out];rfl) (hb7.trans L)⟩
        ·have HE5:=Lib.hid (show lC hd r=if hd then .ok (⟨st,fs,[],[]⟩,en) t8 else(jm nv t8).bind fun d t=>.ok (⟨st,fs,d,[]⟩,en) t by rw[HE4.out,hx.out];rfl)
         have hb8:=hb7.trans L8;have c2:=q8.c2;clear HE4 hx h8 L8 hb7;cases hd
         ·go_wp2_with fail
          refine(Oe nv q8 hP (Nat.le_trans hnle (by decide))).mono ?_
          intro e w9 h9;rcases aN h9 with⟨hx,rfl,L⟩| ⟨hx,rfl,L⟩| ⟨d,t9,hx,rfl,q9,L9⟩
          ·exact⟨rfl,aA (by rw[HE5.out,if_neg (by simp),hx.out];rfl) (hb8.trans L)⟩
          ·exact⟨rfl,aC (by rw[HE5.out,if_neg (by simp),hx.out];rfl) (hb8.trans L)⟩
          ·go_wp2
           go_end0
           exact bM (by rw[HE5.out,if_neg (by simp),hx.out];rfl) rfl (hb8.trans L9) q9
         ·go_wp2
          go_end0
          exact bM (HE5.out.trans (if_pos (by simp))) rfl hb8 q8
    ·have HE:=Lib.hid (show lC hd r=(iR false t2).bind fun e t=>.ok (⟨st,fs,[],[]⟩,e) t by rw[HZ.out,AP,if_neg hte,if_neg hcl])
     have hn1:(wh==teN)=false:=by simpa using hte
     have hn2: ¬(wh.toArray=teN.toArray):=by simpa using hte
     have hn3:(wh==clN)=false:=by simpa using hcl
     have hn4: ¬(wh.toArray=clN.toArray):=by simpa using hcl
     unfold teN at hn1 hn2;unfold clN at hn3 hn4;clear HZ hte hcl;go_wp2_with fail
     refine(Gx false q3 hP rfl).mono ?_;intro e w4 h4;rcases aN h4 with⟨hx,rfl,L⟩| ⟨hx,rfl,L⟩| ⟨en,t4,hx,rfl,q4,L4⟩
     ·exact⟨rfl,aA (by rw[HE.out,hx.out];rfl) (hb2.trans L)⟩
     ·exact⟨rfl,aC (by rw[HE.out,hx.out];rfl) (hb2.trans L)⟩
     ·go_wp2
      go_end0
      exact bM (by rw[HE.out,hx.out];rfl) rfl (hb2.trans L4) q4
abbrev rsZ:Array Value:=#[.int .i64 0,.slice none 0 0,.slice none 0 0,.slice none 0 0]
theorem Qr (a b c d:Nat) (hab:a≠b) (hac:a≠c) (had:a≠d) (hbc:b≠c) (hbd:b≠d) (hcd:c≠d) (x:Int) (older:List PanicEntry) (w:World)
 (B1:Blk w a 54 rsZ) (B2:Blk w b 4 #[.bool false]) (B3:Blk w c 3 #[.int .i64 0]) (B4:Blk w d 30 #[.int .i64 0]):
 CallsD Tryz.prog 58 #[.pointer (some ⟨a,0,none⟩),.pointer (some ⟨b,0,none⟩),.pointer (some ⟨c,0,none⟩),.pointer (some ⟨d,0,none⟩)] (.panicking ({ v:=.iface 144 (.agg #[.int .i64 x]),recovered:=false } ::older)) w fun e u' w'=>
  e= .returned (.tuple #[])/\ u'= .panicking ({ v:=.iface 144 (.agg #[.int .i64 x]),recovered:=true } ::older)/\ Blk w' a 54 rsZ/\ Blk w' b 4 #[.bool false]/\ Blk w' c 3 #[.int .i64 0]/\ Blk w' d 30 #[.int .i64 x]/\ Fr (fun i=>i=a\/ i=b\/ i=c\/ i=d) w w':=by
 have ha: ∀(v:Value) (w:World),(Instr.typeAssert (.iface 144 v) 20 144 true).run Tryz.prog w= .ok (.tuple #[v,.bool true]) w:=fun _ _=>by kernel_rfl
 have hq: ∀(v:Value) (w:World),(binOp .eql 20 (.iface 144 v) .nilIface).run Tryz.prog w= .ok (.bool false) w:=fun _ _=>by kernel_rfl
 obtain⟨j0,j1,j2,j3,i0,i1,i2,i3⟩:=B1.c4;obtain⟨k0,g0⟩:=B2.c1;obtain⟨l0,m0⟩:=B3.c1;obtain⟨n0,o0⟩:=B4.c1;refine callsD_of_wpS Tryz.func58 rfl fun c₀ cs hu=> ?_
 apply wpS_seq;apply wpS_region;simp[wpOpsS,go_sem,recoverD,hu,Tryz.ntmps58,Exit.thenS];refine wpS_of_wp ?_;go_wp2
 clear j0 j1 j2 j3 i0 i1 i2 i3 k0 g0 l0 m0 n0 o0 ha hq;have LV:Below w.heap.size w (w.alloc (.cells #[.int .i64 x] 144)):=aj (Below.refl _ _) _;have BV:Blk (w.alloc (.cells #[.int .i64 x] 144)) w.heap.size 144 #[.int .i64 x]:=Blk.new' _ _ rfl _ _;obtain⟨V,hV⟩: ∃V,V=w.alloc (.cells #[.int .i64 x] 144):=⟨_,rfl⟩;rw[<- hV]at LV BV⊢;have C1:=B1.ah LV;have C2:=B2.ah LV;have C3:=B3.ah LV;have C4:=B4.ah LV;have e1: ¬a=w.heap.size:=Nat.ne_of_lt B1.lt;have e2: ¬b=w.heap.size:=Nat.ne_of_lt B2.lt;have e3: ¬c=w.heap.size:=Nat.ne_of_lt B3.lt;have e4: ¬d=w.heap.size:=Nat.ne_of_lt B4.lt;have f1: ¬b=a:=fun e=>hab e.symm
 have f2: ¬c=a:=fun e=>hac e.symm
 have f3: ¬d=a:=fun e=>had e.symm
 have f4: ¬c=b:=fun e=>hbc e.symm
 have f5: ¬d=b:=fun e=>hbd e.symm
 have f6: ¬d=c:=fun e=>hcd e.symm
 clear hV;obtain⟨j0,j1,j2,j3,i0,i1,i2,i3⟩:=C1.c4;obtain⟨k0,g0⟩:=C2.c1;obtain⟨l0,m0⟩:=C3.c1;obtain⟨n0,o0⟩:=C4.c1;obtain⟨p0,q0⟩:=BV.c1;clear B1 B2 B3 B4;have hA1:(((rsZ.setIfInBounds 0 (.int .i64 0)).setIfInBounds 1 (.slice none 0 0)).setIfInBounds 2 (.slice none 0 0)).setIfInBounds 3 (.slice none 0 0)=rsZ:=by simp
 have hA2:(#[.bool false]:Array Value).setIfInBounds 0 (.bool false)= #[.bool false]:=by simp
 have hA3:(#[.int .i64 0]:Array Value).setIfInBounds 0 (.int .i64 0)= #[.int .i64 0]:=by simp
 have hA4:(#[.int .i64 0]:Array Value).setIfInBounds 0 (.int .i64 x)= #[.int .i64 x]:=by simp
 have D1:=((((((((C1.ay 0 (.int .i64 0)).ay 1 (.slice none 0 0)).ay 2 (.slice none 0 0)).ay 3 (.slice none 0 0)).far (p:=⟨b,0,none⟩) hab (.bool false)).far (p:=⟨c,0,none⟩) hac (.int .i64 0)).far (p:=⟨d,0,none⟩) had (.int .i64 x))).drew;rw[hA1]at D1;have D2:=((((((((C2.far (p:=⟨a,0,none⟩) f1 (.int .i64 0)).far (p:=⟨a,1,none⟩) f1 (.slice none 0 0)).far (p:=⟨a,2,none⟩) f1 (.slice none 0 0)).far (p:=⟨a,3,none⟩) f1 (.slice none 0 0)).ay 0 (.bool false)).far (p:=⟨c,0,none⟩) hbc (.int .i64 0)).far (p:=⟨d,0,none⟩) hbd (.int .i64 x))).drew;rw[hA2]at D2;have D3:=((((((((C3.far (p:=⟨a,0,none⟩) f2 (.int .i64 0)).far (p:=⟨a,1,none⟩) f2 (.slice none 0 0)).far (p:=⟨a,2,none⟩) f2 (.slice none 0 0)).far (p:=⟨a,3,none⟩) f2 (.slice none 0 0)).far (p:=⟨b,0,none⟩) f4 (.bool false)).ay 0 (.int .i64 0)).far (p:=⟨d,0,none⟩) hcd (.int .i64 x))).drew;rw[hA3]at D3;have D4:=((((((((C4.far (p:=⟨a,0,none⟩) f3 (.int .i64 0)).far (p:=⟨a,1,none⟩) f3 (.slice none 0 0)).far (p:=⟨a,2,none⟩) f3 (.slice none 0 0)).far (p:=⟨a,3,none⟩) f3 (.slice none 0 0)).far (p:=⟨b,0,none⟩) f5 (.bool false)).far (p:=⟨c,0,none⟩) f6 (.int .i64 0)).ay 0 (.int .i64 x))).drew;rw[hA4]at D4;have D5:Fr (fun i=>i=a\/ i=b\/ i=c\/ i=d) w (((((((V.setCell ⟨a,0,none⟩ (.int .i64 0)).setCell ⟨a,1,none⟩ (.slice none 0 0)).setCell ⟨a,2,none⟩ (.slice none 0 0)).setCell ⟨a,3,none⟩ (.slice none 0 0)).setCell ⟨b,0,none⟩ (.bool false)).setCell ⟨c,0,none⟩ (.int .i64 0)).setCell ⟨d,0,none⟩ (.int .i64 x)).drew:=(((((((((Fr.dB LV).mono fun i hi=>.inr hi).setCell (p:=⟨a,0,none⟩) (.inl (.inl rfl)) (.int .i64 0)).setCell (p:=⟨a,1,none⟩) (.inl (.inl rfl)) (.slice none 0 0)).setCell (p:=⟨a,2,none⟩) (.inl (.inl rfl)) (.slice none 0 0)).setCell (p:=⟨a,3,none⟩) (.inl (.inl rfl)) (.slice none 0 0)).setCell (p:=⟨b,0,none⟩) (.inl (.inr (.inl rfl))) (.bool false)).setCell (p:=⟨c,0,none⟩) (.inl (.inr (.inr (.inl rfl)))) (.int .i64 0)).setCell (p:=⟨d,0,none⟩) (.inl (.inr (.inr (.inr rfl)))) (.int .i64 x)).drew
 clear C1 C2 C3 C4 BV LV hA1 hA2 hA3 hA4;go_region
 all_goals
  go_wp2
  simp[bodyPostS,results,Tryz.results58];exact⟨D1,D2,D3,D4,D5⟩
theorem VE (p q r s:Value) (w:World):
 CallsD Tryz.prog 58 #[p,q,r,s] .returning w fun e u' w'=>e= .returned (.tuple #[])/\ u'= .returning/\ w=w':=by
 have hq: ∀(w:World),(binOp .eql 20 .nilIface .nilIface).run Tryz.prog w= .ok (.bool true) w:=fun _=>by kernel_rfl
 refine callsD_of_wpS Tryz.func58 rfl fun c₀ cs hu=> ?_
 apply wpS_seq;apply wpS_region;simp[wpOpsS,go_sem,recoverD,hu,Tryz.ntmps58,Exit.thenS];refine wpS_of_wp ?_;go_wp2
 cases c₀
 simp_all [bodyPostS,results,Tryz.results58]
theorem yL (tmps:Array Value) (a b c d:Nat) (w:World) (st:Int) (vf vb vp:Value) (en:Bool) (n y:Int) (h4:tmps[4]? = some (.pointer (some ⟨a,0,none⟩))) (h5:tmps[5]? = some (.pointer (some ⟨b,0,none⟩))) (h6:tmps[6]? = some (.pointer (some ⟨c,0,none⟩))) (h7:tmps[7]? = some (.pointer (some ⟨d,0,none⟩)))
 (B1:Blk w a 54 #[.int .i64 st,vf,vb,vp]) (B2:Blk w b 4 #[.bool en]) (B3:Blk w c 3 #[.int .i64 n]) (B4:Blk w d 30 #[.int .i64 y]):
 (results Tryz.f34 tmps).run Tryz.prog w= .ok (.tuple #[.agg #[.int .i64 st,vf,vb,vp],.bool en,.int .i64 n,.int .i64 y]) w:=by
 obtain⟨j0,j1,j2,j3,-,-,-,-⟩:=B1.c4;obtain⟨k0,-⟩:=B2.c1;obtain⟨l0,-⟩:=B3.c1;obtain⟨m0,-⟩:=B4.c1;simp[results,Tryz.results34,go_sem,h4,h5,h6,h7,j0,j1,j2,j3,k0,l0,m0]
def Gy (a b c d:Nat):List Deferred:= [{ target:=.fn (.func 58) #[.pointer (some ⟨a,0,none⟩),.pointer (some ⟨b,0,none⟩),.pointer (some ⟨c,0,none⟩),.pointer (some ⟨d,0,none⟩)],args:=#[] }]
theorem Et (tmps:Array Value) (a b c d:Nat) (hab:a≠b) (hac:a≠c) (had:a≠d) (hbc:b≠c) (hbd:b≠d) (hcd:c≠d) (x:Int) (w:World) (R:Ending-> World-> Prop) (h4:tmps[4]? = some (.pointer (some ⟨a,0,none⟩))) (h5:tmps[5]? = some (.pointer (some ⟨b,0,none⟩))) (h6:tmps[6]? = some (.pointer (some ⟨c,0,none⟩))) (h7:tmps[7]? = some (.pointer (some ⟨d,0,none⟩)))
 (B1:Blk w a 54 rsZ) (B2:Blk w b 4 #[.bool false]) (B3:Blk w c 3 #[.int .i64 0]) (B4:Blk w d 30 #[.int .i64 0])
 (hR: ∀w',Fr (fun i=>i=a\/ i=b\/ i=c\/ i=d) w w'-> R (.returned (.tuple #[.agg #[.int .i64 0,.slice none 0 0,.slice none 0 0,.slice none 0 0],.bool false,.int .i64 0,.int .i64 x])) w'):
 bodyPostD Tryz.prog Tryz.f34 R (.panic (pK x)) { tmps:=tmps,defers:=Gy a b c d } w:=by
 show Leaves _ _ tmps R (Gy a b c d) (.panicking (pK x)) w;refine leaves_cons (f:=58) (args:=#[.pointer (some ⟨a,0,none⟩),.pointer (some ⟨b,0,none⟩),.pointer (some ⟨c,0,none⟩),.pointer (some ⟨d,0,none⟩)]) (by simp) (by simp[go_sem]) ?_
 refine(Qr a b c d hab hac had hbc hbd hcd x [] w B1 B2 B3 B4).mono ?_;rintro e u' w' ⟨rfl,rfl,D1,D2,D3,D4,D5⟩;exact⟨_,yL tmps a b c d w' 0 _ _ _ false 0 x h4 h5 h6 h7 D1 D2 D3 D4,hR w' D5⟩
theorem YK (tmps:Array Value) (a b c d:Nat) (w:World) (st:Int) (vf vb vp:Value) (en:Bool) (n y:Int) (R:Ending-> World-> Prop) (h4:tmps[4]? = some (.pointer (some ⟨a,0,none⟩))) (h5:tmps[5]? = some (.pointer (some ⟨b,0,none⟩))) (h6:tmps[6]? = some (.pointer (some ⟨c,0,none⟩))) (h7:tmps[7]? = some (.pointer (some ⟨d,0,none⟩)))
 (B1:Blk w a 54 #[.int .i64 st,vf,vb,vp]) (B2:Blk w b 4 #[.bool en]) (B3:Blk w c 3 #[.int .i64 n]) (B4:Blk w d 30 #[.int .i64 y])
 (hR:R (.returned (.tuple #[.agg #[.int .i64 st,vf,vb,vp],.bool en,.int .i64 n,.int .i64 y])) w):
 bodyPostD Tryz.prog Tryz.f34 R .ret { tmps:=tmps,defers:=Gy a b c d } w:=by
 show Leaves _ _ tmps R (Gy a b c d) .returning w;refine leaves_cons (f:=58) (args:=#[.pointer (some ⟨a,0,none⟩),.pointer (some ⟨b,0,none⟩),.pointer (some ⟨c,0,none⟩),.pointer (some ⟨d,0,none⟩)]) (by simp) (by simp[go_sem]) ?_
 refine(VE _ _ _ _ w).mono ?_;rintro e u' w' ⟨rfl,rfl,rfl⟩;exact⟨_,yL tmps a b c d w st vf vb vp en n y h4 h5 h6 h7 B1 B2 B3 B4,hR⟩
def RsN (B:Nat) (x:RsP):Prop:=(∀a,x.af=some a-> B<= a.block)/\ (∀a,x.ab=some a-> B<= a.block)/\ ∀a,x.ap=some a-> B<= a.block
theorem Gz {w:World} {base e size n c B:Nat} {A:Option Addr} {xs:List Value} (h:Own w base e size (.slice A n c) n xs) (hB:B<= base): ∀a,A=some a-> B<= a.block:=by
 intro a ha;rcases h.2 with⟨h',_⟩| ⟨g,cap,cur,fr,h',hb,-⟩
 ·injection h' with h' _ _
  rw[ha]at h';cases h'
 ·injection h' with h' _ _
  rw[ha]at h';injection h' with h'
  subst h';exact Nat.le_trans hB hb
def xZ (w:World) (r:Rs×Bool×Nat×Int) (e:Ending) (w':World):Prop:=
 ∃x:RsP,e= .returned (.tuple #[rsW x,.bool r.2.1,.int .i64 (r.2.2.1:Int),.int .i64 r.2.2.2])/\ x.r=r.1/\ RsR w' x/\ RsN w.heap.size x/\ Below w.heap.size w w'
theorem Jp {w w':World} {r:Rs×Bool×Nat×Int} {c:Int} (h:r=(rs0,false,0,c)) (hb:Below w.heap.size w w'):
 xZ w r (.returned (.tuple #[.agg #[.int .i64 0,.slice none 0 0,.slice none 0 0,.slice none 0 0],.bool false,.int .i64 0,.int .i64 c])) w':=by
 subst h;exact⟨⟨rs0,none,0,none,0,none,0⟩,rfl,rfl,⟨Rd.nil _ _ _ _,Rd.nil _ _ _ _,Rd.nil _ _ _ _,Nat.le_refl _,Nat.le_refl _,Nat.le_refl _⟩,⟨fun _ h=>(by cases h),fun _ h=>(by cases h),fun _ h=>(by cases h)⟩,hb⟩
theorem x9 {w:World} {base e size n c:Nat} {A:Option Addr} {xs:List Value} (h:Own w base e size (.slice A n c) n xs):Rd w w.heap.size size A n xs:=by
 obtain⟨A',c',h1,-,-,h4,-⟩:=Own.rd h;injection h1 with h1 _ _
 rw[h1];exact h4
theorem RsR.drew {w:World} {x:RsP} (h:RsR w x):RsR w.drew x:=⟨h.rf,h.rb,h.rp,h.cf,h.cb,h.cp⟩
theorem VF {w w':World} {r:Rs×Bool×Nat×Int} {y:Rs} {en:Bool} {n k:Nat} {Af Ab Ap:Option Addr} {cf cb cp:Nat} (h:r=(y,en,n,0)) (hk:k=n) (hR:RsR w' ⟨y,Af,cf,Ab,cb,Ap,cp⟩) (hN:RsN w.heap.size ⟨y,Af,cf,Ab,cb,Ap,cp⟩) (hb:Below w.heap.size w w'):
 xZ w r (.returned (.tuple #[.agg #[.int .i64 y.st,.slice Af y.f.length cf,.slice Ab y.b.length cb,.slice Ap y.p.length cp],.bool en,.int .i64 (k:Int),.int .i64 0])) w':=by
 subst h;subst hk;exact⟨⟨y,Af,cf,Ab,cb,Ap,cp⟩,rfl,rfl,hR,hN,hb⟩
theorem Qs (A:Option Addr) (c:Nat) (P:Bs) (hd:Bool) (w:World) (hr:Rd w w.heap.size 1 A P.length (P.map bv)) (hA:A=none-> P= []) (hP:P.length<= 1000000):
 Calls Tryz.prog 34 #[.slice A P.length c,.bool hd] w (xZ w (ug hd P)):=by
 have hmf: ∀(fn:Fn) (first cap:Array Value) (w:World),(Instr.makeFunc fn first cap).run Tryz.prog w= .ok (.func fn first cap) w:=fun _ _ _ _=>rfl
 obtain⟨V,hV⟩: ∃V,V=(((w.alloc (.cells rsZ 54)).alloc (.cells #[.bool false] 4)).alloc (.cells #[.int .i64 0] 3)).alloc (.cells #[.int .i64 0] 30):=⟨_,rfl⟩;have L0:Below w.heap.size w V:=by rw[hV];exact aj (aj (aj (aj (Below.refl _ _) _) _) _) _
 have B1:Blk V w.heap.size 54 rsZ:=by rw[hV];exact(((Blk.new w _ _).alloc _).alloc _).alloc _
 have B2:Blk V (w.heap.size+1) 4 #[.bool false]:=by rw[hV];exact((Blk.new' _ _ (by simp) _ _).alloc _).alloc _
 have B3:Blk V (w.heap.size+2) 3 #[.int .i64 0]:=by rw[hV];exact(Blk.new' _ _ (by simp) _ _).alloc _
 have B4:Blk V (w.heap.size+3) 30 #[.int .i64 0]:=by rw[hV];exact Blk.new' _ _ (by simp) _ _
 have hVs:V.heap.size=w.heap.size+4:=by rw[hV];simp
 have hcl:=nO A c w.heap.size P V (hr.below L0) hA (by omega)
 have HR:=Lib.hid (show ug hd P=Lj P (lC hd P)from rfl)
 have HVS:=Lib.hid hVs;clear hVs hr hA
 go_enter_defers Tryz.func34,Tryz.ntmps34
 go_wp2_with fail
 rw[show(((w.alloc (.cells #[.int .i64 0,.slice none 0 0,.slice none 0 0,.slice none 0 0] 54)).alloc (.cells #[.bool false] 4)).alloc (.cells #[.int .i64 0] 3)).alloc (.cells #[.int .i64 0] 30)=V from hV.symm]
 clear hV;refine hcl.mono ?_;rintro e w1 ⟨v,rfl,ho,L1⟩;obtain⟨Ac,cc,rfl,hcc,-,hrd⟩:=ho.form;have hV1:=L1.size;have q:RM (w1.alloc (.cells #[.slice Ac P.length cc,.int .i64 0,.bool hd,.int .i64 0,.slice none 0 0,.slice none 0 0,.slice none 0 0,.bool false] 147)) w1.heap.size P hd ⟨Ac,cc,.slice none 0 0,.slice none 0 0,.slice none 0 0⟩ 0 ⟨P,0,[],[],[],false⟩:=
  ⟨Blk.new w1 _ _,(hrd.alloc (Nat.le_refl _) _),hcc,OF.nil _ _,OB.nil _ _,OI.nil _ _,by simp,rfl,by simp,by simp,by simp,by simp⟩
 have L2:Below w1.heap.size w1 (w1.alloc (.cells #[.slice Ac P.length cc,.int .i64 0,.bool hd,.int .i64 0,.slice none 0 0,.slice none 0 0,.slice none 0 0,.bool false] 147)):=aj (Below.refl _ _) _;obtain⟨W,hW⟩: ∃W,W=w1.alloc (.cells #[.slice Ac P.length cc,.int .i64 0,.bool hd,.int .i64 0,.slice none 0 0,.slice none 0 0,.slice none 0 0,.bool false] 147):=⟨_,rfl⟩;obtain⟨g,hg⟩: ∃g,g=w1.heap.size:=⟨_,rfl⟩;rw[<- hW,<- hg]at q L2;have hgV:V.heap.size<= g:=by rw[hg];exact hV1
 have C1:=(B1.ah L1).below L2 (by rw[hg];exact(B1.ah L1).lt)
 have C2:=(B2.ah L1).below L2 (by rw[hg];exact(B2.ah L1).lt)
 have C3:=(B3.ah L1).below L2 (by rw[hg];exact(B3.ah L1).lt)
 have C4:=(B4.ah L1).below L2 (by rw[hg];exact(B4.ah L1).lt)
 have L3:Below w.heap.size w W:=(L0.trans (L1.mono (by have:=HVS.out;omega))).trans (L2.mono (by have:=HVS.out;omega))
 clear B1 B2 B3 B4 L0 L1 L2 ho hrd hcl;go_wp2_with fail
 rw[<- hW,<- hg];clear hW hg;refine(VD ⟨_,_,q⟩ hP).mono ?_;intro e w3 h3;have hkeep: ∀w3,Below g W w3-> Below w.heap.size w w3/\ Blk w3 w.heap.size 54 rsZ/\ Blk w3 (w.heap.size+1) 4 #[.bool false]/\ Blk w3 (w.heap.size+2) 3 #[.int .i64 0]/\ Blk w3 (w.heap.size+3) 30 #[.int .i64 0]:=by
  intro w3 L;have hs:=HVS.out;exact⟨L3.trans (L.mono (by omega)),C1.below L (by omega),C2.below L (by omega),C3.below L (by omega),C4.below L (by omega)⟩
 rcases aN h3 with⟨hx,rfl,L⟩| ⟨hx,rfl,L⟩| ⟨⟨y,en⟩,t,hx,rfl,⟨x,k,q3⟩,L⟩
 ·obtain⟨K0,K1,K2,K3,K4⟩:=hkeep w3 L
  exact Et _ w.heap.size (w.heap.size+1) (w.heap.size+2) (w.heap.size+3) (by omega) (by omega) (by omega) (by omega) (by omega) (by omega) 12 w3 _ rfl rfl rfl rfl K1 K2 K3 K4
   fun w' hf=>Jp (by rw[HR.out,hx.out];rfl) (K0.trans (hf.toBelow K0.size fun i hi=>by omega))
 ·obtain⟨K0,K1,K2,K3,K4⟩:=hkeep w3 L
  exact Et _ w.heap.size (w.heap.size+1) (w.heap.size+2) (w.heap.size+3) (by omega) (by omega) (by omega) (by omega) (by omega) (by omega) 8 w3 _ rfl rfl rfl rfl K1 K2 K3 K4
   fun w' hf=>Jp (by rw[HR.out,hx.out];rfl) (K0.trans (hf.toBelow K0.size fun i hi=>by omega))
 ·obtain⟨K0,K1,K2,K3,K4⟩:=hkeep w3 L
  have HE:=Lib.hid (show ug hd P=(y,en,P.length-t.length,0) by rw[HR.out,hx.out];rfl)
  obtain⟨Af,cf,hvf,hcf,-,hrf⟩:=q3.of_.form;obtain⟨Ab,cb,hvb,hcb,-,hrb⟩:=q3.ob.form;obtain⟨Ap,cp,hvp,hcp,-,hrp⟩:=q3.oi.form;obtain⟨-,j1,-,j3,j4,j5,j6,j7,-⟩:=q3.c8;rw[hvf]at j4;rw[hvb]at j5;rw[hvp]at j6;simp only[]at j3 j4 j5 j6 j7 hrf hrb hrp hcf hcb hcp;have hkt:k=P.length-t.length:=by have:=q3.at_;simp only[]at this;omega
  have HK:=Lib.hid hkt;have hgs:=q3.lt;have HVF:=Lib.hid hvf;have HVB:=Lib.hid hvb;have HVP:=Lib.hid hvp;clear hkt hx h3 q hkeep HR hvf hvb hvp;go_wp2_with fail
  have hs:=HVS.out;obtain⟨a,ha⟩: ∃a,a=w.heap.size:=⟨_,rfl⟩;obtain⟨b,hb⟩: ∃b,b=w.heap.size+1:=⟨_,rfl⟩;obtain⟨c3,hc⟩: ∃c,c=w.heap.size+1+1:=⟨_,rfl⟩;obtain⟨d,hd4⟩: ∃d,d=w.heap.size+1+1+1:=⟨_,rfl⟩;rw[<- ha]at K1;rw[<- hb]at K2;rw[show w.heap.size+2=w.heap.size+1+1 from rfl,<- hc]at K3
  rw[show w.heap.size+3=w.heap.size+1+1+1 from rfl,<- hd4]at K4
  rw[<- hd4,<- hc,<- hb,<- ha];have n1: ¬g=a:=by omega
  have n2: ¬g=b:=by omega
  have n3: ¬g=c3:=by omega
  have n4: ¬g=d:=by omega
  have n5: ¬a=b:=by omega
  have n6: ¬a=c3:=by omega
  have n7: ¬a=d:=by omega
  have n8: ¬b=c3:=by omega
  have n9: ¬b=d:=by omega
  have n10: ¬c3=d:=by omega
  have m1: ¬a=g:=by omega
  have m2: ¬b=g:=by omega
  have m3: ¬c3=g:=by omega
  have m4: ¬d=g:=by omega
  have m5: ¬b=a:=by omega
  have m6: ¬c3=a:=by omega
  have m7: ¬d=a:=by omega
  have m8: ¬c3=b:=by omega
  have m9: ¬d=b:=by omega
  have m10: ¬d=c3:=by omega
  have HA:=Lib.hid ha;have HB:=Lib.hid hb;have HC:=Lib.hid hc;have HDD:=Lib.hid hd4;clear ha hb hc hd4 hs;obtain⟨u0,u1,u2,u3,v0,v1,v2,v3⟩:=K1.c4;obtain⟨u4,v4⟩:=K2.c1;obtain⟨u5,v5⟩:=K3.c1;obtain⟨u6,v6⟩:=K4.c1;have S0:w3.cell? ⟨g,1,none⟩=some (.int .i64 (k:Int))/\ w3.cell? ⟨g,3,none⟩=some (.int .i64 y.st)/\ w3.cell? ⟨g,4,none⟩=some (.slice Af y.f.length cf)/\ w3.cell? ⟨g,5,none⟩=some (.slice Ab y.b.length cb)/\ w3.cell? ⟨g,6,none⟩=some (.slice Ap y.p.length cp)/\ w3.cell? ⟨g,7,none⟩=some (.bool en):=⟨j1,j3,j4,j5,j6,j7⟩;go_region_held3 (fun w'=>w'.cell? ⟨g,1,none⟩=some (.int .i64 (k:Int))/\ w'.cell? ⟨g,3,none⟩=some (.int .i64 y.st)/\ w'.cell? ⟨g,4,none⟩=some (.slice Af y.f.length cf)/\ w'.cell? ⟨g,5,none⟩=some (.slice Ab y.b.length cb)/\ w'.cell? ⟨g,6,none⟩=some (.slice Ap y.p.length cp)/\ w'.cell? ⟨g,7,none⟩=some (.bool en)) (first|with_reducible exact S0|go_keep) (fail)
  have E1:=(((((((K1.ay 0 (.int .i64 y.st)).ay 1 (.slice Af y.f.length cf)).ay 2 (.slice Ab y.b.length cb)).ay 3 (.slice Ap y.p.length cp)).far (p:=⟨b,0,none⟩) n5 (.bool en)).far (p:=⟨c3,0,none⟩) n6 (.int .i64 (k:Int))).far (p:=⟨d,0,none⟩) n7 (.int .i64 0));have E2:=(((((((K2.far (p:=⟨a,0,none⟩) m5 (.int .i64 y.st)).far (p:=⟨a,1,none⟩) m5 (.slice Af y.f.length cf)).far (p:=⟨a,2,none⟩) m5 (.slice Ab y.b.length cb)).far (p:=⟨a,3,none⟩) m5 (.slice Ap y.p.length cp)).ay 0 (.bool en)).far (p:=⟨c3,0,none⟩) n8 (.int .i64 (k:Int))).far (p:=⟨d,0,none⟩) n9 (.int .i64 0));have E3:=(((((((K3.far (p:=⟨a,0,none⟩) m6 (.int .i64 y.st)).far (p:=⟨a,1,none⟩) m6 (.slice Af y.f.length cf)).far (p:=⟨a,2,none⟩) m6 (.slice Ab y.b.length cb)).far (p:=⟨a,3,none⟩) m6 (.slice Ap y.p.length cp)).far (p:=⟨b,0,none⟩) m8 (.bool en)).ay 0 (.int .i64 (k:Int))).far (p:=⟨d,0,none⟩) n10 (.int .i64 0));have E4:=(((((((K4.far (p:=⟨a,0,none⟩) m7 (.int .i64 y.st)).far (p:=⟨a,1,none⟩) m7 (.slice Af y.f.length cf)).far (p:=⟨a,2,none⟩) m7 (.slice Ab y.b.length cb)).far (p:=⟨a,3,none⟩) m7 (.slice Ap y.p.length cp)).far (p:=⟨b,0,none⟩) m9 (.bool en)).far (p:=⟨c3,0,none⟩) m10 (.int .i64 (k:Int))).ay 0 (.int .i64 0));rw[show((((rsZ.setIfInBounds 0 (.int .i64 y.st)).setIfInBounds 1 (.slice Af y.f.length cf)).setIfInBounds 2 (.slice Ab y.b.length cb)).setIfInBounds 3 (.slice Ap y.p.length cp))= #[.int .i64 y.st,.slice Af y.f.length cf,.slice Ab y.b.length cb,.slice Ap y.p.length cp] by simp]at E1
  rw[show(#[.bool false]:Array Value).setIfInBounds 0 (.bool en)= #[.bool en] by simp]at E2
  rw[show(#[.int .i64 0]:Array Value).setIfInBounds 0 (.int .i64 (k:Int))= #[.int .i64 (k:Int)] by simp]at E3
  rw[show(#[.int .i64 0]:Array Value).setIfInBounds 0 (.int .i64 0)= #[.int .i64 0] by simp]at E4
  have q1:w.heap.size<= a:=Nat.le_of_eq HA.out.symm;have q2:w.heap.size<= b:=by have:=HB.out;omega
  have q3':w.heap.size<= c3:=by have:=HC.out;omega
  have q4:w.heap.size<= d:=by have:=HDD.out;omega
  have LB:=(((((((K0.setCell (p:=⟨a,0,none⟩) q1 (.int .i64 y.st)).setCell (p:=⟨a,1,none⟩) q1 (.slice Af y.f.length cf)).setCell (p:=⟨a,2,none⟩) q1 (.slice Ab y.b.length cb)).setCell (p:=⟨a,3,none⟩) q1 (.slice Ap y.p.length cp)).setCell (p:=⟨b,0,none⟩) q2 (.bool en)).setCell (p:=⟨c3,0,none⟩) q3' (.int .i64 (k:Int))).setCell (p:=⟨d,0,none⟩) q4 (.int .i64 0));have FF:Fr (fun i=>i=a\/ i=b\/ i=c3\/ i=d) w3 (((((((w3.setCell ⟨a,0,none⟩ (.int .i64 y.st)).setCell ⟨a,1,none⟩ (.slice Af y.f.length cf)).setCell ⟨a,2,none⟩ (.slice Ab y.b.length cb)).setCell ⟨a,3,none⟩ (.slice Ap y.p.length cp)).setCell ⟨b,0,none⟩ (.bool en)).setCell ⟨c3,0,none⟩ (.int .i64 (k:Int))).setCell ⟨d,0,none⟩ (.int .i64 0)):=((((((((Fr.refl (fun i=>i=a\/ i=b\/ i=c3\/ i=d) w3).setCell (p:=⟨a,0,none⟩) (.inl (.inl rfl)) (.int .i64 y.st)).setCell (p:=⟨a,1,none⟩) (.inl (.inl rfl)) (.slice Af y.f.length cf)).setCell (p:=⟨a,2,none⟩) (.inl (.inl rfl)) (.slice Ab y.b.length cb)).setCell (p:=⟨a,3,none⟩) (.inl (.inl rfl)) (.slice Ap y.p.length cp)).setCell (p:=⟨b,0,none⟩) (.inl (.inr (.inl rfl))) (.bool en)).setCell (p:=⟨c3,0,none⟩) (.inl (.inr (.inr (.inl rfl)))) (.int .i64 (k:Int))).setCell (p:=⟨d,0,none⟩) (.inl (.inr (.inr (.inr rfl)))) (.int .i64 0))
  have ho:=q3.of_;have hob:=q3.ob;have hoi:=q3.oi;have hsep: ∀i,g<i-> ¬(i=a\/ i=b\/ i=c3\/ i=d):=by
   intro i hi;have h1:=HA.out;have h2:=HB.out;have h3:=HC.out;have h4:=HDD.out;have h5:=HVS.out;omega
  have ho':=Own.fr ho FF fun i hi=>hsep i (ho.lt i hi).1
  have YL:=Own.fr hob FF fun i hi=>hsep i (hob.lt i hi).1
  have hoi':=Own.fr hoi FF fun i hi=>hsep i (hoi.lt i hi).1
  rw[HVF.out]at ho';rw[HVB.out]at YL;rw[HVP.out]at hoi';have RN:RsN w.heap.size ⟨y,Af,cf,Ab,cb,Ap,cp⟩:=by
   have h5:=HVS.out;exact⟨Gz ho' (by omega),Gz YL (by omega),Gz hoi' (by omega)⟩
  have R1:RsR (((((((w3.setCell ⟨a,0,none⟩ (.int .i64 y.st)).setCell ⟨a,1,none⟩ (.slice Af y.f.length cf)).setCell ⟨a,2,none⟩ (.slice Ab y.b.length cb)).setCell ⟨a,3,none⟩ (.slice Ap y.p.length cp)).setCell ⟨b,0,none⟩ (.bool en)).setCell ⟨c3,0,none⟩ (.int .i64 (k:Int))).setCell ⟨d,0,none⟩ (.int .i64 0)) ⟨y,Af,cf,Ab,cb,Ap,cp⟩:=⟨x9 ho',x9 YL,x9 hoi',hcf,hcb,hcp⟩;clear ho ho' hob YL hoi hoi' FF hsep q3 u0 u1 u2 u3 u4 u5 u6 v0 v1 v2 v3 v4 v5 v6 S0 j1 j3 j4 j5 j6 j7 hrf hrb hrp;go_wp2_with fail
  have hret:=VF HE.out HK.out (RsR.drew R1) RN (Below.drew LB);clear R1 LB K1 K2 K3 K4 K0 HVS C1 C2 C3 C4 L3 L;generalize (((((((w3.setCell ⟨a,0,none⟩ (.int .i64 y.st)).setCell ⟨a,1,none⟩ (.slice Af y.f.length cf)).setCell ⟨a,2,none⟩ (.slice Ab y.b.length cb)).setCell ⟨a,3,none⟩ (.slice Ap y.p.length cp)).setCell ⟨b,0,none⟩ (.bool en)).setCell ⟨c3,0,none⟩ (.int .i64 (k:Int))).setCell ⟨d,0,none⟩ (.int .i64 0))=WF at*;refine YK _ a b c3 d WF.drew y.st _ _ _ en _ 0 _ ?_ ?_ ?_ ?_ E1.drew E2.drew E3.drew E4.drew hret;all_goals rfl
end Go.Proofs.YtdmondfpepbniaaGreatDoor
