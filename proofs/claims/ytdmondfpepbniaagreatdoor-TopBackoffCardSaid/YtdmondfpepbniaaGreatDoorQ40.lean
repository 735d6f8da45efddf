/- Part 40 of the proof: VnD VmG. -/
import Derived.Test.YtdmondfpepbniaaGreatDoorQ38
import Derived.Test.YtdmondfpepbniaaGreatDoorQ39
namespace Go.Proofs.YtdmondfpepbniaaGreatDoor
open Go.RowKit
set_option maxRecDepth 100000
set_option maxHeartbeats 4000000
set_option linter.all false
theorem Kt (w:World) (t:Nat-> Nat) (m gn:Nat) (n:cu) (peer:Nat) (h:fP w t m gn n) (hs:n.stopped=false) (hp:peer<= 255) (hq:n.queue.length<n.backlog) (hb:n.backlog<= 64) (hc:n.aG.length<100) (hm:n.marks<= 1000000):
 Calls Tryz.prog 16 #[pV gn,nV peer] w fun e w'=>e= .returned (.tuple #[nV n.aG.length,.int .i64 0])/\ ∃t',fP w' t' m gn (fJ n peer)/\ Stp (Mk m 1000) w t w' t':=by
 obtain⟨A,vc,vq,h⟩:=h;obtain⟨Ac,cc,rfl,-,-,-,-⟩:=h.c.form;obtain⟨Aq,cq,rfl,-,-,-,-⟩:=h.q.form;have j0:w.cell? ⟨gn,0,none⟩=some (nV n.backlog):=h.b.b.cell 0;have j1:w.cell? ⟨gn,1,none⟩=some (.slice Ac n.aG.length cc):=h.b.b.cell 1;have j2:w.cell? ⟨gn,2,none⟩=some (.slice Aq n.queue.length cq):=h.b.b.cell 2;have j3:w.cell? ⟨gn,3,none⟩=some (.bool false):=by rw[<- hs];exact h.b.b.cell 3
 have d0:decide ((peer:Int)<0)=false:=by simp
 have d1:decide ((255:Int)< (peer:Int))=false:=decide_eq_false (by omega)
 have d2:decide (n.backlog<= n.queue.length)=false:=by simp;omega
 have d3:decide ((65536:Int)<=(n.aG.length:Int))=false:=decide_eq_false (by omega)
 go_enter Tryz.func16,Tryz.ntmps16
 go_wp2_with fail
 go_quiet (fail)
 have h:=h.drewN nq;have S0:Stp (Mk m 1000) w t (w.drewN nq) t:=(Stp.refl _ _ _).drewN nq;clear j0 j1 j2 j3;obtain⟨W,hW⟩: ∃W,W=w.drewN nq:=⟨_,rfl⟩;rw[<- hW];rw[<- hW]at h S0;clear hW;have j1:W.cell? ⟨gn,1,none⟩=some (.slice Ac n.aG.length cc):=h.b.b.cell 1;have i1:W.frozen? ⟨gn,1,none⟩=false:=h.b.b.frozen 1;have hgl:=h.b.b.lt;go_upto_region 8 with(fail)
 obtain⟨mi,hmi⟩: ∃mi,m+10+5*n.aG.length=mi:=⟨_,rfl⟩;have sA:Stp (fun _=>False) W t (W.alloc (.cells (ncC (nc0 peer) (.slice none 0 0) (.slice none 0 0) (.slice none 0 0)) 93)) (upT t W mi):=Stp.alloc _ _ _ _ _
 have bA:BT (W.alloc (.cells (ncC (nc0 peer) (.slice none 0 0) (.slice none 0 0) (.slice none 0 0)) 93)) (upT t W mi) mi W.heap.size 93 (ncC (nc0 peer) (.slice none 0 0) (.slice none 0 0) (.slice none 0 0)):=BT.new _ _ _ _ _;have hA:=h.keep sA fun _ _ h=>h
 go_upto_region 9 with(
  at_builtin
  go_must (
   refine qy rfl _ _ 104 rfl 87 (.pointer none) 1 8 Tryz.underlying104 (by kernel_rfl) rfl (upT t W mi) (m+1) (.slice Ac n.aG.length cc) n.aG.length (A.map pV) rfl hA.c [pV W.heap.size] (W.heap.size+1) (by simp) rfl rfl (by intro u hu;simp at hu;subst hu;rfl) (by omega) ?_
   intro v' w2 t2 hr2 hs2;obtain⟨A2,c2,rfl,-,-,-,-⟩:=hr2.form;have hb2:=hA.b.keep (hs2 (fun z=>z=m+1) rfl) (by omega)
   have k1:w2.cell? ⟨gn,1,none⟩=some (.slice Ac n.aG.length cc):=hb2.b.cell 1
   have l1:w2.frozen? ⟨gn,1,none⟩=false:=hb2.b.frozen 1))
 obtain⟨b3,s3⟩:=hb2.aH 1 (.slice A2 (n.aG.length+1) c2);obtain⟨V,hV⟩: ∃V,V=w2.setCell ⟨gn,1,none⟩ (.slice A2 (n.aG.length+1) c2):=⟨_,rfl⟩;rw[<- hV]at b3 s3⊢;have r3:=hr2.keep s3 (by omega)
 have q3:=(hA.q.keep (hs2 (fun z=>z=m+1) rfl) (by omega)).keep s3 (by omega)
 have bc3:=(bA.keep (hs2 (fun z=>z=m+1) rfl) (by omega)).keep s3 (by omega)
 have S3:Stp (Mk m 1000) w t V t2:=((S0.trans sA fun _ h=>h.elim).trans (hs2 (Mk m 1000) (by omega)) fun _ h=>h).trans s3 yA
 have K3: ∀i y,n.aG[i]? = some y-> ∃g,A[i]? = some g/\ NcK V t2 (m+10+5*i) g y:=fun i y hy=>by
  obtain⟨g,hg,hk⟩:=hA.k i y hy;exact⟨g,hg,(hk.keep (hs2 (fun z=>z=m+1) rfl) fun z hz=>by omega).keep s3 fun z hz=>by omega⟩
 have hAl:=h.l;clear hV k1 l1 hb2 hr2 hs2 sA bA hA j1 i1 hgl S0 h;have j2:V.cell? ⟨gn,2,none⟩=some (.slice Aq n.queue.length cq):=b3.b.cell 2;have i2:V.frozen? ⟨gn,2,none⟩=false:=b3.b.frozen 2
 go_upto_region 10 with(
  at_builtin
  go_must (
   refine qy rfl _ _ 34 rfl 3 (.int .i64 0) 1 8 Tryz.underlying34 rZ rfl t2 (m+2) (.slice Aq n.queue.length cq) n.queue.length (n.queue.map nV) rfl q3 [nV n.aG.length] _ rfl rfl rfl (by intro u hu;simp at hu;subst hu;rfl) (by omega) ?_
   intro v' w4 t4 hr4 hs4;obtain⟨A4,c4,rfl,-,-,-,-⟩:=hr4.form;have hb4:=b3.keep (hs4 (fun z=>z=m+2) rfl) (by omega)
   have k2:w4.cell? ⟨gn,2,none⟩=some (.slice Aq n.queue.length cq):=hb4.b.cell 2
   have l2:w4.frozen? ⟨gn,2,none⟩=false:=hb4.b.frozen 2))
 obtain⟨b5,s5⟩:=hb4.aH 2 (.slice A4 (n.queue.length+1) c4);obtain⟨U,hU⟩: ∃U,U=w4.setCell ⟨gn,2,none⟩ (.slice A4 (n.queue.length+1) c4):=⟨_,rfl⟩;rw[<- hU]at b5 s5⊢;have r5:=(r3.keep (hs4 (fun z=>z=m+2) rfl) (by omega)).keep s5 (by omega)
 have q5:=hr4.keep s5 (by omega)
 have bc5:=(bc3.keep (hs4 (fun z=>z=m+2) rfl) (by omega)).keep s5 (by omega)
 have S5:Stp (Mk m 1000) w t U t4:=(S3.trans (hs4 (Mk m 1000) (by omega)) fun _ h=>h).trans s5 yA
 have K5: ∀i y,n.aG[i]? = some y-> ∃g,A[i]? = some g/\ NcK U t4 (m+10+5*i) g y:=fun i y hy=>by
  obtain⟨g,hg,hk⟩:=K3 i y hy;exact⟨g,hg,(hk.keep (hs4 (fun z=>z=m+2) rfl) fun z hz=>by omega).keep s5 fun z hz=>by omega⟩
 clear hU k2 l2 hb4 hr4 hs4 j2 i2 K3 S3 bc3 r3 q3 b3 s3;have j5:U.cell? ⟨gn,5,none⟩=some (nV n.marks):=b5.b.cell 5;have i5:U.frozen? ⟨gn,5,none⟩=false:=b5.b.frozen 5;go_wp2_with fail
 go_ret2
 obtain⟨b6,s6⟩:=b5.aH 5 (.int .i64 ((n.marks:Int)+1));refine⟨rfl,t4,⟨A++ [W.heap.size],.slice A2 (n.aG.length+1) c2,.slice A4 (n.queue.length+1) c4,b6.to (by simp[fJ,hs]),?_,?_,by simp[fJ,hAl],fun i y hy=> ?_,by simp[fJ];omega⟩,S5.trans s6 yA⟩
 ·rw[show(fJ n peer).aG.length=n.aG.length+1 by simp[fJ],List.map_append]
  exact r5.keep s6 (by omega)
 ·rw[show(fJ n peer).queue.length=n.queue.length+1 by simp[fJ],show(fJ n peer).queue.map nV=n.queue.map nV++ [nV n.aG.length] by simp[fJ]]
  exact q5.keep s6 (by omega)
 ·rw[show(fJ n peer).aG=n.aG++ [nc0 peer]from rfl]at hy
  rcases Nat.lt_or_ge i n.aG.length with hlt|hge
  ·rw[List.getElem?_append_left hlt]at hy
   obtain⟨g,hg,hk⟩:=K5 i y hy;exact⟨g,by rw[List.getElem?_append_left (by omega)];exact hg,hk.keep s6 fun z hz=>by omega⟩
  ·obtain rfl:i=n.aG.length:=by
    have:=(List.getElem?_eq_some_iff.1 hy).1;simp at this;omega
   obtain rfl:nc0 peer=y:=by simpa using hy
   refine⟨W.heap.size,by rw[<- hAl];simp,?_⟩
   rw[hmi];have bc6:=bc5.keep s6 (by omega)
   exact⟨_,_,_,bc6,RT.nil _ _ _ _ _,RT.nil _ _ _ _ _,RT.nil _ _ _ _ _⟩
theorem RS (c:CnS):o9 c<= 256:=by
 unfold o9;split
 ·omega
 ·split<;>omega
section
variable (w:World) (t:Nat-> Nat) (g:Nat) (s s':SrS) (P:SrP) (L:CL) (i gl gc:Nat) (x:ClS)
theorem RY (rd:Bool) (now:Nat) (h:aZ w t g s P L) (hx:aT L i=some (gl,gc,x)) (hs:Hu s i rd now=some s'):
 Calls Tryz.prog 50 #[pV g,pV gl,.bool rd,nV now] w fun e w'=>e= .returned (.tuple #[])/\ ∃t',yC w' t' g s' P/\ Stp SM w t w' t':=by
 rw[Hu,h.cl hx,Option.bind_some]at hs;obtain⟨n,hn,hs⟩:=Option.bind_eq_some_iff.1 hs;have hX:=h.one hx;have hiz:i<1000:=hX.z;have j0:w.cell? ⟨gl,0,none⟩=some (pV gc):=hX.b.b.cell 0;have hRm:=JV w t (cM i+10) gc s.cf P.tv P.gs x.c hX.c;go_enter Tryz.func50,Tryz.ntmps50
 cases rd
 ·simp only[Bool.false_and,Bool.false_eq_true,if_false]at hs
  have hS:=mg w t g s s' P L i gl gc x now h hx hs;clear hRm;go_wp2_with fail
  refine hS.mono ?_;rintro e w2 ⟨rfl,t2,h2,s2⟩;go_wp2_with fail
  go_end0
  exact⟨rfl,t2,h2,s2⟩
 ·rcases Nat.eq_zero_or_pos (o9 x.c)with hr|hr
  ·rw[hr]at hs hRm
   simp only[Nat.lt_irrefl,decide_false,Bool.and_false,Bool.false_eq_true,if_false]at hs;go_wp2_with fail
   refine hRm.mono ?_;rintro e w1 ⟨rfl,L1⟩;have z1:=Stp.below L1 (fun _=>False) t
   have hS:=mg w1 t g s s' P L i gl gc x now (h.keep z1 (fun _ _ h=>h) id) hx hs
   go_wp2_with fail
   refine hS.mono ?_;rintro e w2 ⟨rfl,t2,h2,s2⟩;go_wp2_with fail
   go_end0
   exact⟨rfl,t2,h2,(z1.mono fun _ h=>h.elim).trans s2 fun _ h=>h⟩
  ·rw[if_pos (by simp[hr])]at hs
   obtain⟨hg1,hs⟩:=aI hs;simp only[Bool.and_eq_true,decide_eq_true_eq]at hg1;obtain⟨n1,n2,n3,n4⟩:=hg1;obtain⟨c',hc,hs⟩:=Option.bind_eq_some_iff.1 hs;have hr2:=RS x.c;obtain⟨R,hR⟩: ∃R,R=o9 x.c:=⟨_,rfl⟩;rw[<- hR]at hRm hc hs hr hr2;obtain⟨l,hl⟩: ∃l,n.inp.take R=l:=⟨_,rfl⟩;rw[hl]at hc;have hl0:0<l.length:=by rw[<- hl,List.length_take];omega
   have hle:((l.length:Int)==0)=false:=beq_false_of_ne (by omega)
   have hne: ¬l= []:=fun h=>by rw[h]at hl0;simp at hl0
   have hrI:(0:Int)< (R:Int):=by omega
   have HC:=Lib.hid hc;have HS:=Lib.hid hs;have HL:=Lib.hid hl;have HR:=Lib.hid hR;have HN:=Lib.hid hn;clear hc hs hl hR hn;go_wp2_with fail
   refine hRm.mono ?_;rintro e w1 ⟨rfl,L1⟩;have z1:=Stp.below L1 (fun _=>False) t
   have h1:=h.keep z1 (fun _ _ h=>h) id
   clear hRm h hX j0 L1;have HI:=Lib.hid (show x.id=i from(h1.one hx).i)
   have hI: ∀W tW s3,aZ W tW g s3 P L-> W.cell? ⟨g,0,none⟩=some (pV P.gp)/\ W.cell? ⟨P.gp,0,none⟩=some (pV P.gn)/\ W.cell? ⟨gl,1,none⟩=some (nV x.id)/\ W.cell? ⟨gl,0,none⟩=some (pV gc):=fun W tW s3 hh=>⟨hh.b.b.cell 0,hh.Rj,(hh.one hx).b.b.cell 1,(hh.one hx).b.b.cell 0⟩
   have zd:=(Stp.refl (fun _=>False) w1 t).drew
   have hd:=h1.keep zd (fun _ _ h=>h) id
   have S0:=hI _ _ _ h1;have Sd:=hI _ _ _ hd;have hRm:=JV w1.drew t (cM i+10) gc s.cf P.tv P.gs x.c (hd.one hx).c;rw[<- HR.out]at hRm;go_wp2_with fail
   go_region_held3 (fun W=>W.cell? ⟨g,0,none⟩=some (pV P.gp)/\ W.cell? ⟨P.gp,0,none⟩=some (pV P.gn)/\ W.cell? ⟨gl,1,none⟩=some (nV x.id)/\ W.cell? ⟨gl,0,none⟩=some (pV gc))
    (first|exact S0|exact Sd|exact X4|exact X5|go_keep)
    (first
      | (go_at_call 91
         refine hRm.mono ?_;rintro e w4 ⟨rfl,L4⟩;have z4:=Stp.below L4 (fun _=>False) t
         have h4:=hd.keep z4 (fun _ _ h=>h) id
         have X4:=hI _ _ _ h4;have hRd:=Wq w4 t 1000 P.gn s.net i n R l HL.out h4.net HN.out n1 (by omega) (by omega) n2 n3 n4
         rw[<- HI.out]at hRd)
      | (go_at_call 92
         refine hRd.mono ?_;rintro e w5 ⟨A5,c5,rfl,hc5,t5,hp5,hn5,s5⟩;rw[HI.out]at hn5;have h5:=h4.kE _ s5 hn5
         have X5:=hI _ _ _ h5))
   have sA:=((((z1.trans zd fun _ h=>h).trans z4 fun _ h=>h).mono (S':=SM) fun _ h=>h.elim).trans s5 fun y (h:Mk 1000 1000 y)=>(show SM y by omega))
   have j0:w5.cell? ⟨gl,0,none⟩=some (pV gc):=X5.2.2.2;have e0: ∀y,Mk 20 10 y-> ¬Mk (cM i+10) 20 y:=fun y hy=>by have e0:cM i=3000+50*i:=rfl;omega
   have hPu:=Xq w5 t5 (cM i+10) gc s.cf P.tv P.gs x.c s.tab 20 h5.gl (by omega) (by have e0:cM i=3000+50*i:=rfl;omega) e0 (by omega) (by omega) (h5.one hx).c h5.site c' l A5 c5 now hp5 HC.out
   clear hRm hRd X4 X5 S0 Sd hI hd h1 h4 z1 zd z4 s5 hn5 hp5 e0;go_wp2_with fail
   refine hPu.mono ?_;rintro e w6 ⟨rfl,t6,hc6,s6⟩;have h6:=h5.Xi hx c' s6 hc6;have sB:=sA.trans s6 fun y hy=>by have e0:cM i=3000+50*i:=rfl;omega
   have hS:=mg w6 t6 g _ s' P _ i gl gc _ now h6 (dw hx _) HS.out;clear h5 h6 hPu s6 hc6;go_wp2_with fail
   refine hS.mono ?_;rintro e w7 ⟨rfl,t7,h7,s7⟩;go_wp2_with fail
   go_end0
   exact⟨rfl,t7,h7,sB.trans s7 fun _ h=>h⟩
theorem RZ (now:Nat) (h:aZ w t g s P L) (hs:zC s now=some s'):
 Calls Tryz.prog 40 #[pV g,nV now] w fun e w'=>e= .returned (.tuple #[])/\ ∃t',aZ w' t' g s' P L/\ Stp SM w t w' t':=by
 obtain⟨hg1,hs⟩:=aI hs;simp only[Bool.and_eq_true,uw,Bool.false_or,List.isEmpty_iff]at hg1;obtain⟨g1,g2⟩:=hg1;rw[g2]at hs;obtain rfl:=Option.some.inj (show some _=some s' from hs)
 have hA:=Kr w t 100 P.gw s.wh now h.lD (by omega) g1
 rw[g2]at hA;have j19:w.cell? ⟨g,19,none⟩=some (pV P.gw):=h.b.b.cell 19;go_enter Tryz.func40,Tryz.ntmps40
 go_wp2_with fail
 refine hA.mono ?_;rintro e w1 ⟨v,rfl,τ,t1,-,hr1,hw1,s1⟩;obtain⟨A1,c1,rfl,-,-,-,-⟩:=hr1.form;have h1:=h.wV _ s1 hw1;have sA:=s1.mono (S':=SM) fun y (h:Mk 100 340 y)=>(show SM y by omega)
 clear hA h s1 hw1 hr1;go_wp2_with fail
 go_loopg [23] 0 (fun _ z wr=>z= .int .i64 0/\ wr=w1)
 case atStart=>exact⟨rfl,rfl⟩
 case round=>
  obtain⟨rfl,rfl⟩:=hrel;go_wp2_with fail
  go_end0
  exact⟨rfl,t1,h1,sA⟩
end
end Go.Proofs.YtdmondfpepbniaaGreatDoor
