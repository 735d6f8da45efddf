/- Part 38 of the proof: VhI VhJ VmD. -/
import Derived.Test.YtdmondfpepbniaaGreatDoorQ35
import Derived.Test.YtdmondfpepbniaaGreatDoorQ36
import Derived.Test.YtdmondfpepbniaaGreatDoorQ37
namespace Go.Proofs.YtdmondfpepbniaaGreatDoor
open Go.RowKit
set_option maxRecDepth 100000
set_option maxHeartbeats 4000000
set_option linter.all false
section
variable (w:World) (t:Nat-> Nat) (m g:Nat) (cf:Cf) (tv:Value) (gs:Nat) (c:CnS) (tab:List En) (ms:Nat)
theorem RF (hg:GL w t) (hm:10<= m) (hm2:m+20<= 1000000) (hms: ∀y,Mk ms 10 y-> ¬Mk m 20 y) (hms2:ms+10<= 1000000) (h:dK w t m g cf tv gs c) (hs:yw w t ms gs tab) (a:CnS) (p:Bs) (A:Option Addr) (cp b3 b4 b7 τ:Nat)
 (hτ:1000000<= τ) (h3:BT w t 9 b3 78 #[pV g]) (h4:BT w t 9 b4 33 #[.slice A p.length cp]) (h7:BT w t τ b7 3 #[nV 0]) (hp:RT w t 1 5 1 (.slice A p.length cp) p.length (p.map bv)) (hl:0<p.length) (hr:p.length+c.ring.length<= 256)
 (ha:su cf tab { c with ring:=c.ring++p } =some a):
 Calls Tryz.prog 151 #[pV b3,pV b4,pV b7] w fun e w'=>e= .returned (.tuple #[])/\ ∃t',dK w' t' m g cf tv gs a/\ BT w' t' τ b7 3 #[nV p.length]/\ Stp (fun y=>Mk m 20 y\/ y=τ) w t w' t':=by
 have j3:w.cell? ⟨b3,0,none⟩=some (pV g):=h3.b.cell 0;have j4:w.cell? ⟨b4,0,none⟩=some (.slice A p.length cp):=h4.b.cell 0;have j7:w.cell? ⟨b7,0,none⟩=some (.int .i64 0):=h7.b.cell 0;obtain⟨A',c',hsl,hp'⟩:=RT.iI (T:=33) (by kernel_rfl) (fun w=>by kernel_rfl) hp 0 (Nat.zero_le _)
 simp only[Nat.sub_zero,Nat.zero_mul,List.drop_zero]at hp';have hsl: ∀w:World,(Instr.sliceAt 33 (.slice A p.length cp) (some (.int .i64 0)) none none).run Tryz.prog w= .ok (.slice A' p.length c') w:=hsl;obtain⟨gq,gr,gp,bw,hB⟩:=h;have z:=(Stp.alloc w t (fun _=>False) (.cells #[.slice A' p.length c'] 33) 9).drew
 have bR:=BT.new' w t 9 w.heap.size rfl 33 #[.slice A' p.length c'];have hp5:=hp'.keep z id;obtain⟨g',o',cap',e1,-,hgm,-⟩:=hp5.at_ hl;obtain⟨A6,c6,e6,hnc,-,hrd,-⟩:=hp5.form;have e6':=e6;simp only[Value.slice.injEq,true_and]at e6;obtain⟨rfl,rfl⟩:=e6;simp only[Value.slice.injEq,true_and]at e1
 have hW:=RD _ _ (m+8) gr c.ring p (hB.r.keep z id id) (some ⟨w.heap.size,0,none⟩) 1 A' c' (by omega) hnc ⟨_,0,rfl,bR.b.cell 0⟩ hrd (fun a ha=>by
  have:=ha.symm.trans e1.1;obtain rfl:=Option.some.inj this;simp only
  rw[hgm];omega)
 clear e1 e6' hgm hrd hp5 hp' hnc;have lg:=hB.b.lt;have l3:=h3.lt;have l4:=h4.lt;have l7:=h7.lt;have hI: ∀W,Below w.heap.size w W-> W.cell? ⟨b3,0,none⟩=some (pV g)/\ W.cell? ⟨b4,0,none⟩=some (.slice A p.length cp)/\ W.cell? ⟨b7,0,none⟩=some (.int .i64 0)/\ W.cell? ⟨g,18,none⟩=some (pV gr):=fun W L=>
  ⟨(L.cell (p:=⟨b3,0,none⟩) l3).trans j3,(L.cell (p:=⟨b4,0,none⟩) l4).trans j4,(L.cell (p:=⟨b7,0,none⟩) l7).trans j7,(L.cell (p:=⟨g,18,none⟩) lg).trans (hB.b.b.cell 18)⟩
 have S0:=hI w (Below.refl _ _);have Sd:=hI w.drew (Below.refl _ _).drew;have Sa:=hI _ (aj (Below.refl w.heap.size w) (.cells #[.slice A' p.length c'] 33));have Sb:=hI _ (aj (Below.refl w.heap.size w) (.cells #[.slice A' p.length c'] 33)).drew;have hl0:(0:Int)< (p.length:Int):=by omega
 have hl1:((p.length:Int)==0)=false:=beq_false_of_ne (by omega)
 have hwr:IntKind.i64.wrap (0+(p.length:Int))=(p.length:Int):=by rw[Int.zero_add];exact IntWalk.i64_in _ (by omega)
 go_enter Tryz.func151,Tryz.ntmps151
 go_wp2_with fail
 go_loopg [] 0 (fun _ wr=>wr=w)
 case atStart=>rfl
 case round=>
  obtain rfl:=hrel;go_wp2_with fail
  go_region_held3 (fun W=>W.cell? ⟨b3,0,none⟩=some (pV g)/\ W.cell? ⟨b4,0,none⟩=some (.slice A p.length cp)/\ W.cell? ⟨b7,0,none⟩=some (.int .i64 0)/\ W.cell? ⟨g,18,none⟩=some (pV gr))
   (first|exact S0|exact Sd|exact Sa|exact Sb|exact X2|go_keep)
   (first| (go_at_call 152
            refine hW.mono ?_;rintro e w2 ⟨rfl,t2,hr2,s2⟩
            have X2:w2.cell? ⟨b3,0,none⟩=some (pV g)/\ w2.cell? ⟨b4,0,none⟩=some (.slice A p.length cp)/\ w2.cell? ⟨b7,0,none⟩=some (.int .i64 0)/\ w2.cell? ⟨g,18,none⟩=some (pV gr):=⟨((h3.keep z id).keep s2 (by omega)).b.cell 0,((h4.keep z id).keep s2 (by omega)).b.cell 0,((h7.keep z id).keep s2 (by omega)).b.cell 0,((hB.b.keep z id).keep s2 (by omega)).b.cell 18⟩))
  have sA:=(z.mono (S':=fun y=>Mk m 20 y\/ y=τ) fun _ h=>h.elim).trans s2 fun y (h:Mk (m+8) 2 y)=>(show Mk m 20 y\/ y=τ by omega)
  have k3:=(h3.keep z id).keep s2 (by omega)
  have k4:=(h4.keep z id).keep s2 (by omega)
  have k7:=(h7.keep z id).keep s2 (by omega)
  have hB2:=hB.keep z fun _ _ h=>h
  have h2:dK w2 t2 m g cf tv gs { c with ring:=c.ring++p } :=⟨gq,gr,gp,bw,hB2.b.keep s2 (by omega),hB2.q.keep s2 (by omega) (by omega) (by omega),hr2,hB2.p.keep s2 (by omega),hB2.w.keep s2 (by omega)⟩
  have hg2:=hg.keep sA (by omega)
  have hs2:=hs.keep sA fun y hy hz=>hz.elim (fun h=>hms y hy h) (fun h=>by omega)
  clear hI S0 Sd Sa Sb hW hB hB2 bR z s2 h3 h4 h7 j3 j4 j7 lg l3 l4 l7 hsl hr2 hg hs;have j3:w2.cell? ⟨b3,0,none⟩=some (pV g):=k3.b.cell 0;have j7:w2.cell? ⟨b7,0,none⟩=some (.int .i64 0):=k7.b.cell 0;have f7:w2.frozen? ⟨b7,0,none⟩=false:=k7.b.frozen 0;obtain⟨d7,z7⟩:=k7.aH 0 (nV p.length);have d7:BT (w2.setCell ⟨b7,0,none⟩ (nV p.length)) t2 τ b7 3 #[nV p.length]:=d7;have hX:=Fa _ _ m g cf tv gs _ tab ms (hg2.keep z7 (by omega)) hm hms (h2.keep z7 fun y hy=>by omega) (hs2.keep z7 fun y hy=>by omega) a ha
  have e3:=k3.keep z7 (by omega)
  have e4:=k4.keep z7 (by omega)
  have sB:=sA.trans z7 fun y h=>.inr h
  have j3':(w2.setCell ⟨b7,0,none⟩ (nV p.length)).cell? ⟨b3,0,none⟩=some (pV g):=e3.b.cell 0;clear hg2 hs2 h2 k3 k4 k7 z7 sA;go_wp2_with fail
  refine hX.mono ?_;rintro e w3 ⟨rfl,t3,hA3,s3⟩;have sC:=sB.trans s3 fun y h=>.inl h
  have m3:=e3.keep s3 (by omega)
  have m4:=e4.keep s3 (by omega)
  have m7:=d7.keep s3 (by omega)
  clear hX sB e3 e4 d7 s3 j3' f7 j7 j3;have j3:w3.cell? ⟨b3,0,none⟩=some (pV g):=m3.b.cell 0;have j4:w3.cell? ⟨b4,0,none⟩=some (.slice A p.length cp):=m4.b.cell 0;have j7:w3.cell? ⟨b7,0,none⟩=some (nV p.length):=m7.b.cell 0;have f7:w3.frozen? ⟨b7,0,none⟩=false:=m7.b.frozen 0;have j25:w3.cell? ⟨g,25,none⟩=some (.bool a.ending):=by obtain⟨gq,gr,gp,bw,h⟩:=hA3;exact h.b.b.cell 25
  have j27:w3.cell? ⟨g,27,none⟩=some (.bool a.closed):=by obtain⟨gq,gr,gp,bw,h⟩:=hA3;exact h.b.b.cell 27
  obtain⟨d7,z7⟩:=m7.aH 0 (nV p.length);have d7:BT (w3.setCell ⟨b7,0,none⟩ (nV p.length)) t3 τ b7 3 #[nV p.length]:=d7;have hA4:=hA3.keep z7 fun y hy=>by omega
  have j4':(w3.setCell ⟨b7,0,none⟩ (nV p.length)).cell? ⟨b4,0,none⟩=some (.slice A p.length cp):=(m4.keep z7 (by omega)).b.cell 0
  have sD:=sC.trans z7 fun y h=>.inr h
  clear m3 m4 z7;cases he:a.ending
  ·rw[he]at j25
   cases hc:a.closed
   ·rw[hc]at j27
    clear d7 hA4 sD;go_wp2_with fail
    refine bodyPost_ret (results_none rfl _ _ _) rfl ?_;exact⟨rfl,t3,hA3,m7,sC⟩
   ·rw[hc]at j27
    clear sC hA3 m7;go_wp2_with fail
    refine bodyPost_ret (results_none rfl _ _ _) rfl ?_;exact⟨rfl,t3,hA4,d7,sD⟩
  ·rw[he]at j25
   clear sC hA3 m7;go_wp2_with fail
   refine bodyPost_ret (results_none rfl _ _ _) rfl ?_;exact⟨rfl,t3,hA4,d7,sD⟩
theorem Fe {cf:Cf} {tab:List En} {now:Nat} {f:CnS-> Option CnS} {c d:CnS} (h:yt cf tab now f c=some d): ∃a b,f c=some a/\ su cf tab a=some b/\ d=qX now c b:=by
 rw[yt,Option.bind_eq_some_iff]at h;obtain⟨a,h1,h2⟩:=h;obtain⟨b,h3,h4⟩:=Option.map_eq_some_iff.1 h2;refine⟨a,b,h1,h3,?_⟩;rw[<- h4,qX]
theorem Xq (hg:GL w t) (hm:10<= m) (hm2:m+20<= 1000000) (hms: ∀y,Mk ms 10 y-> ¬Mk m 20 y) (hms0:1<= ms) (hms2:ms+10<= 1000000) (h:dK w t m g cf tv gs c) (hs:yw w t ms gs tab) (d:CnS) (p:Bs) (A:Option Addr) (cp now:Nat)
 (hp:RT w t 1 5 1 (.slice A p.length cp) p.length (p.map bv)) (hd:MV cf tab p now c=some d):
 Calls Tryz.prog 94 #[pV g,.slice A p.length cp,nV now] w fun e w'=>e= .returned (nV p.length)/\ ∃t',dK w' t' m g cf tv gs d/\ Stp (Mk m 20) w t w' t':=by
 obtain⟨τ,hτ,hfr⟩:=dW w t;have hmf: ∀(fn:Fn) (first cap:Array Value) (w:World),(Instr.makeFunc fn first cap).run Tryz.prog w= .ok (.func fn first cap) w:=fun _ _ _ _=>rfl
 have z1:=Stp.alloc w t (fun _=>False) (.cells #[pV g] 78) 9
 have b1:=BT.new' w t 9 w.heap.size rfl 78 #[pV g];obtain⟨W1,hW1⟩: ∃W1,W1=w.alloc (.cells #[pV g] 78):=⟨_,rfl⟩;have hs1:w.heap.size+1=W1.heap.size:=by rw[hW1];simp
 rw[<- hW1]at z1 b1;have HW1:=Lib.hid hW1;obtain⟨t1,ht1⟩: ∃t1,t1=upT t w 9:=⟨_,rfl⟩;rw[<- ht1]at z1 b1;clear ht1;have z2:=Stp.alloc W1 t1 (fun _=>False) (.cells #[.slice A p.length cp] 33) 9
 have b2:=BT.new' W1 t1 9 (w.heap.size+1) hs1 33 #[.slice A p.length cp];obtain⟨W2,hW2⟩: ∃W2,W2=W1.alloc (.cells #[.slice A p.length cp] 33):=⟨_,rfl⟩;have hs2:w.heap.size+1+1=W2.heap.size:=by rw[hW2];simp[hs1]
 rw[<- hW2]at z2 b2;have HW2:=Lib.hid hW2;obtain⟨t2,ht2⟩: ∃t2,t2=upT t1 W1 9:=⟨_,rfl⟩;rw[<- ht2]at z2 b2;clear ht2;have b1:=b1.keep z2 id;have sA:=z1.trans z2 fun _ h=>h
 clear z1 z2;have h2:=h.keep sA fun _ _ h=>h
 have j25:W2.cell? ⟨g,25,none⟩=some (.bool c.ending):=by obtain⟨gq,gr,gp,bw,h⟩:=h2;exact h.b.b.cell 25
 have j26:W2.cell? ⟨g,26,none⟩=some (.bool c.ended):=by obtain⟨gq,gr,gp,bw,h⟩:=h2;exact h.b.b.cell 26
 have j27:W2.cell? ⟨g,27,none⟩=some (.bool c.closed):=by obtain⟨gq,gr,gp,bw,h⟩:=h2;exact h.b.b.cell 27
 have jc:W2.cell? ⟨w.heap.size,0,none⟩=some (pV g):=b1.b.cell 0;have jp:W2.cell? ⟨w.heap.size+1,0,none⟩=some (.slice A p.length cp):=b2.b.cell 0;rw[MV]at hd;have HS1:=Lib.hid hs1;have HS2:=Lib.hid hs2;clear hW1 hW2 hs1 hs2;go_enter Tryz.func94,Tryz.ntmps94
 go_upto_region 1 with(fail)
 rw[<- HW1.out,<- HW2.out];clear HW1 HW2;cases he:c.ending||c.ended||c.closed
 ·rw[he]at hd
  simp only[Bool.false_eq_true,if_false]at hd;obtain⟨hgd,hd⟩:=aI hd;simp only[Bool.and_eq_true,decide_eq_true_eq]at hgd;obtain⟨hl,hr⟩:=hgd;obtain⟨a,b,ha,hb,rfl⟩:=Fe hd;simp only[Bool.or_eq_false_iff]at he;obtain⟨⟨e1,e2⟩,e3⟩:=he;rw[e1]at j25;rw[e2]at j26;rw[e3]at j27;have z3:=Stp.alloc W2 t2 (fun _=>False) (.cells #[.int .i64 0] 3) τ
  have b3:=BT.new' W2 t2 τ W2.heap.size rfl 3 #[nV 0];go_upto_region 6 with(fail)
  obtain⟨W3,hW3⟩: ∃W3,W3=W2.alloc (.cells #[.int .i64 0] 3):=⟨_,rfl⟩;rw[<- hW3]at z3⊢;have b3:BT W3 (upT t2 W2 τ) τ W2.heap.size 3 #[nV 0]:=by rw[hW3];exact b3
  obtain⟨t3,ht3⟩: ∃t3,t3=upT t2 W2 τ:=⟨_,rfl⟩;rw[<- ht3]at z3 b3;clear ht3 hW3;have sB:=sA.trans z3 fun _ h=>h
  have c1:=b1.keep z3 id;have c2:=b2.keep z3 id;have h3:=h2.keep z3 fun _ _ h=>h
  have hg3:=hg.keep sB id;have hs3:=hs.keep sB fun _ _ h=>h
  have hp3:=hp.keep sB id;have hcl:=fun n=>RF (W3.drewN n) t3 m g cf tv gs c tab ms (hg3.keep ((Stp.refl (fun _=>False) W3 t3).drewN n) id) hm hm2 hms hms2 (h3.keep ((Stp.refl (fun _=>False) W3 t3).drewN n) fun _ _ h=>h) (hs3.keep ((Stp.refl (fun _=>False) W3 t3).drewN n) fun _ _ h=>h) a p A cp _ _ _ τ hτ (c1.keep ((Stp.refl (fun _=>False) W3 t3).drewN n) id) (c2.keep ((Stp.refl (fun _=>False) W3 t3).drewN n) id) (b3.keep ((Stp.refl (fun _=>False) W3 t3).drewN n) id) (hp3.keep ((Stp.refl (fun _=>False) W3 t3).drewN n) id) hl hr ha
  have hD:=J5 W3 t3 m g cf tv gs c tab ms hg3 hm hms h3 hs3 (fun y=>Mk m 20 y\/ y=τ) (fun y h=>.inl h) (by omega) (fun y hy hz=>hz.elim (fun h=>hms y hy h) (fun h=>by omega)) 151 #[pV w.heap.size,pV (w.heap.size+1),pV W2.heap.size] (fun _ _=>by kernel_rfl) a b now hb
   (fun w' t'=>BT w' t' τ W2.heap.size 3 #[nV p.length]) (fun _ _ _ _ q s=>q.keep s (by omega)) (fun n=>(hcl n).mono fun e w' ⟨q1,t',q2,q3,q4⟩=>⟨q1,t',q2,q3,((Stp.refl _ W3 t3).drewN n).trans q4 fun _ h=>h⟩)
  have jc:W3.cell? ⟨w.heap.size,0,none⟩=some (pV g):=c1.b.cell 0;clear hcl h2 h3 hg3 hs3 hp3 b1 b2 b3 c1 c2 j25 j26 j27 jp;go_wp2_with fail
  refine hD.mono ?_;rintro e w5 ⟨rfl,t5,h5,b5,s5⟩;have j5:w5.cell? ⟨W2.heap.size,0,none⟩=some (nV p.length):=b5.b.cell 0;have sC:=(sB.mono (S':=fun y=>Mk m 20 y\/ y=τ) fun _ h=>h.elim).trans s5 fun _ h=>h
  clear hD;go_wp2_with fail
  go_ret
  refine⟨rfl,t5,h5,sC.drop fun k hk hS=> ?_⟩
  rcases hS with hS|hS
  ·exact hS
  ·have:=hfr k hk;omega
 ·rw[he]at hd
  obtain rfl:c=d:=by simpa using hd
  have fin: ∀n,dK (W2.drewN n) t2 m g cf tv gs c/\ Stp (Mk m 20) w t (W2.drewN n) t2:=fun n=>⟨h2.keep ((Stp.refl (fun _=>False) W2 t2).drewN n) fun _ _ h=>h,(sA.trans ((Stp.refl (fun _=>False) W2 t2).drewN n) fun _ h=>h).mono fun _ h=>h.elim⟩
  cases e1:c.ending
  ·rw[e1]at j25
   cases e2:c.ended
   ·rw[e2]at j26
    have e3:c.closed=true:=by rw[e1,e2]at he;simpa using he
    rw[e3]at j27;go_wp2_with fail
    go_ret
    exact⟨rfl,t2,fin 0⟩
   ·rw[e2]at j26
    go_wp2_with fail
    go_ret
    exact⟨rfl,t2,fin 0⟩
  ·rw[e1]at j25
   go_wp2_with fail
   go_ret
   exact⟨rfl,t2,fin 0⟩
end
theorem yU: ∀(l:List Nat) (c:CnS),c.words= []-> l.foldl qV c= { c with told:=c.told+l.length,whole:=c.whole+l.length }
 | [],c,_=>rfl
 |k::l,c,h=>by
  have e:qV c k= { c with told:=c.told+1,whole:=c.whole+1 } :=by rw[qV,h,if_neg (by simp[aT])]
  rw[List.foldl_cons,e,yU l _ (by exact h)]
  simp only[List.length_cons];rw[Nat.add_assoc,Nat.add_assoc,Nat.add_comm 1 l.length]
theorem CU: ∀(n:Nat) (l:List (Nat×Nat)) (k:Nat),k∈(dR n l).1-> ∃p∈l,p.1=k
 |_,[],k,h=>by simp[dR]at h
 |n,p::l,k,h=>by
  rw[dR]at h;split at h
  ·rcases List.mem_cons.1 h with rfl|h
   ·exact⟨p,by simp,rfl⟩
   ·obtain⟨q,hq,e⟩:=CU _ l k h
    exact⟨q,by simp[hq],e⟩
  ·simp at h
theorem Zt (w:World):(zeroValue 4).run Tryz.prog w= .ok (.bool false) w:=by
 kernel_rfl
section
variable (w:World) (t:Nat-> Nat) (m g:Nat) (cf:Cf) (tv:Value) (gs:Nat) (c:CnS) (tab:List En) (ms:Nat)
theorem ND (hm:10<= m) (h:dK w t m g cf tv gs c) (n b3 b4:Nat) (h3:BT w t 9 b3 78 #[pV g]) (h4:BT w t 9 b4 3 #[nV n]) (hn:n<= c.q.b.length) (hwd:c.words= []) (hok:Nl cf c) (hz: ∀p∈c.q.pcs,p.2<= 1000000) (hz1: ∀p∈c.q.pcs,p.1<= 1000000):
 Calls Tryz.prog 131 #[pV b3,pV b4] w fun e w'=>e= .returned (.tuple #[])/\ ∃t',dK w' t' m g cf tv gs ((fD c.q n).2.foldl qV { c with q:=(fD c.q n).1 })/\ Stp (Mk m 20) w t w' t':=by
 rw[yU _ { c with q:=(fD c.q n).1 } hwd]
 have hlen:(fD c.q n).2.length<= 10000:=by have:=Cc (min n c.q.b.length) c.q.pcs;have:=hok.qp;show(dR _ _).1.length<= _;omega
 obtain⟨l,hl⟩: ∃l,l=(fD c.q n).2:=⟨_,rfl⟩;have hlo: ∀k∈(fD c.q n).2,k<= 1000000:=fun k hk=>by
  obtain⟨p,hp,rfl⟩:=CU _ _ k hk;exact hz1 p hp
 rw[<- hl]at hlo;obtain⟨q',hq'⟩: ∃q',q'=(fD c.q n).1:=⟨_,rfl⟩;have htl:=hok.tl;have hwh:=hok.wh;obtain⟨gq,gr,gp,bw,hB⟩:=h;have hD:=fun N=>Xg (w.drewN N) t (m+1) gq c.q n ((hB.keep ((Stp.refl (fun _=>False) w t).drewN N) fun _ _ h=>h).q) hn (by have:=hok.qb;omega) (by have:=hok.qp;omega) hz
 rw[<- hl]at hlen;rw[<- hl,<- hq']at hD;rw[<- hl,<- hq'];clear hok hz hz1 hl hq' hn;have lg:=hB.b.lt;have l3:=h3.lt;have l4:=h4.lt;have j3:w.cell? ⟨b3,0,none⟩=some (pV g):=h3.b.cell 0;have j4:w.cell? ⟨b4,0,none⟩=some (nV n):=h4.b.cell 0;have j0:w.cell? ⟨g,0,none⟩=some (pV gq):=hB.b.b.cell 0;have S0:w.cell? ⟨b3,0,none⟩=some (pV g)/\ w.cell? ⟨b4,0,none⟩=some (nV n)/\ w.cell? ⟨g,0,none⟩=some (pV gq):=⟨j3,j4,j0⟩;have Sd:w.drew.cell? ⟨b3,0,none⟩=some (pV g)/\ w.drew.cell? ⟨b4,0,none⟩=some (nV n)/\ w.drew.cell? ⟨g,0,none⟩=some (pV gq):=⟨j3,j4,j0⟩;have hD1:=hD 1;go_enter Tryz.func131,Tryz.ntmps131
 go_wp2_with fail
 go_region_held3 (fun W=>W.cell? ⟨b3,0,none⟩=some (pV g)/\ W.cell? ⟨b4,0,none⟩=some (nV n)/\ W.cell? ⟨g,0,none⟩=some (pV gq))
  (first|exact S0|exact Sd|exact X2|go_keep)
  (first| (go_at_call 132
           refine hD1.mono ?_;rintro e w2 ⟨v,rfl,t2,hv2,hq2,s2⟩;obtain⟨A2,c2,rfl,-,-,-,-⟩:=hv2.form;have z2:=((Stp.refl (Mk m 20) w t).drew).trans s2 fun y (h:Mk (m+1) 5 y)=>(show Mk m 20 y by omega)
           have k3:=(h3.keep (Stp.refl (fun _=>False) w t).drew id).keep s2 (by omega)
           have k4:=(h4.keep (Stp.refl (fun _=>False) w t).drew id).keep s2 (by omega)
           have hBd:=hB.keep (Stp.refl (fun _=>False) w t).drew fun _ _ h=>h
           have hB2:pW w2 t2 m g cf tv gs { c with q:=q' } gq gr gp bw:=⟨hBd.b.keep s2 (by omega),hq2,hBd.r.keep s2 (by omega) (by omega),hBd.p.keep s2 (by omega),hBd.w.keep s2 (by omega)⟩
           have X2:w2.cell? ⟨b3,0,none⟩=some (pV g)/\ w2.cell? ⟨b4,0,none⟩=some (nV n)/\ w2.cell? ⟨g,0,none⟩=some (pV gq):=⟨k3.b.cell 0,k4.b.cell 0,hB2.b.b.cell 0⟩))
 clear hD1 hD S0 Sd X2 hBd hB h3 h4 k4 s2 j3 j4 j0 hq2 lg l3 l4;have hr2:=hv2;go_wp2_with fail
 go_loopw [11] (fun z wr=> ∃(j:Nat) (tr:Nat-> Nat),z= .int .i64 (j:Int)/\ j<= l.length/\ pW wr tr m g cf tv gs { c with q:=q',told:=c.told+j,whole:=c.whole+j } gq gr gp bw/\ BT wr tr 9 b3 78 #[pV g]/\ RT wr tr (m+1+3) 3 1 (.slice A2 l.length c2) l.length (l.map nV)/\ Stp (Mk m 20) w t wr tr) (fun z _=>l.length- (intOf z).toNat)
 case atStart=>exact⟨0,t2,rfl,Nat.zero_le _,hB2,k3,hr2,z2⟩
 case round=>
  obtain⟨j,tr,rfl,hj,hBr,hbr,hrr,sr⟩:=hrel;clear hB2 k3 hr2 hv2 z2;rcases Nat.lt_or_ge j l.length with hlt|hge
  ·obtain⟨k,hk⟩: ∃k,l[j]? = some k:=⟨_,List.getElem?_eq_getElem hlt⟩
   have hko:=hlo k (List.mem_of_getElem? hk);obtain⟨g',o',cap',e1,hgl,-,hca⟩:=hrr.at_ (by omega)
   have e1':=e1;simp only[Value.slice.injEq,true_and]at e1;obtain⟨rfl,rfl⟩:=e1;clear e1';have y0:wr.cell? ⟨g',o'+j,none⟩=some (nV k):=by
    have:=(hca j (by omega)).1
    rw[this,List.getElem?_map,hk];rfl
   clear hca hk;obtain⟨T,hT⟩: ∃T,T=c.told+j:=⟨_,rfl⟩;obtain⟨W,hW⟩: ∃W,W=c.whole+j:=⟨_,rfl⟩;rw[<- hT,<- hW]at hBr;have HT:=Lib.hid hT;have HW:=Lib.hid hW;have hT1:T<= 2000000:=by omega
   have hW1:W<= 2000000:=by omega
   clear hT hW;have j3:wr.cell? ⟨b3,0,none⟩=some (pV g):=hbr.b.cell 0;have j33:wr.cell? ⟨g,33,none⟩=some (nV T):=hBr.b.b.cell 33;have f33:wr.frozen? ⟨g,33,none⟩=false:=hBr.b.b.frozen 33;have w1:IntKind.i64.wrap ((T:Int)+1)=(T:Int)+1:=IntWalk.i64_in _ (by omega)
   have w2:IntKind.i64.wrap ((W:Int)+1)=(W:Int)+1:=IntWalk.i64_in _ (by omega)
   obtain⟨h5,z5⟩:=hBr.set 33 (.int .i64 ((T:Int)+1)) { c with q:=q',told:=T+1,whole:=W } rfl rfl rfl rfl rfl;obtain⟨V,hV⟩: ∃V,V=wr.setCell ⟨g,33,none⟩ (.int .i64 ((T:Int)+1)):=⟨_,rfl⟩;have b5:=hbr.keep z5 (by omega)
   have r5:=hrr.keep z5 (by omega)
   rw[<- hV]at h5 z5 b5 r5;have i3:V.cell? ⟨b3,0,none⟩=some (pV g):=b5.b.cell 0;have i29:V.cell? ⟨g,29,none⟩=some (.map (some bw)):=h5.b.b.cell 29;have i32:V.cell? ⟨g,32,none⟩=some (nV W):=h5.b.b.cell 32;have g32:V.frozen? ⟨g,32,none⟩=false:=h5.b.b.frozen 32;have hlk:=h5.w.look BH Tryz.underlying129 (Zt V) k (by show k<= _;omega) false
   simp only[hwd]at hlk;have hlk:(Instr.lookup 129 (.map (some bw)) (nV k) false).run Tryz.prog V= .ok (.bool false) V:=hlk;obtain⟨h6,z6⟩:=h5.set 32 (.int .i64 ((W:Int)+1)) { c with q:=q',told:=T+1,whole:=W+1 } rfl rfl rfl rfl rfl;go_upto_region 4 with(fail)
   rw[<- hV];clear hV;go_wp2_with fail
   go_roundw
   case rel=>exact⟨j+1,tr,by go_num,hlt,by rw[<- Nat.add_assoc,<- Nat.add_assoc,<- HT.out,<- HW.out];exact h6,b5.keep z6 (by omega),r5.keep z6 (by omega),(sr.trans z5 fun y (h:y=m)=>(show Mk m 20 y by omega)).trans z6 fun y (h:y=m)=>(show Mk m 20 y by omega)⟩
   case measure=>simp[intOf];omega
  ·obtain rfl:j=l.length:=by omega
   go_wp2_with fail
   go_end0
   exact⟨rfl,tr,⟨gq,gr,gp,bw,hBr⟩,sr⟩
theorem RG (hg:GL w t) (hm:10<= m) (hms: ∀y,Mk ms 10 y-> ¬Mk m 20 y) (h:dK w t m g cf tv gs c) (hs:yw w t ms gs tab) (d:CnS) (n now:Nat) (hn:n<= c.q.b.length) (hd:Hr cf tab n now c=some d):
 Calls Tryz.prog 77 #[pV g,nV n,nV now] w fun e w'=>e= .returned (.tuple #[])/\ ∃t',dK w' t' m g cf tv gs d/\ Stp (Mk m 20) w t w' t':=by
 have hmf: ∀(fn:Fn) (first cap:Array Value) (w:World),(Instr.makeFunc fn first cap).run Tryz.prog w= .ok (.func fn first cap) w:=fun _ _ _ _=>rfl
 have z1:=Stp.alloc w t (fun _=>False) (.cells #[pV g] 78) 9
 have b1:=BT.new' w t 9 w.heap.size rfl 78 #[pV g];obtain⟨W1,hW1⟩: ∃W1,W1=w.alloc (.cells #[pV g] 78):=⟨_,rfl⟩;have hs1:w.heap.size+1=W1.heap.size:=by rw[hW1];simp
 rw[<- hW1]at z1 b1;have HW1:=Lib.hid hW1;obtain⟨t1,ht1⟩: ∃t1,t1=upT t w 9:=⟨_,rfl⟩;rw[<- ht1]at z1 b1;clear ht1;have z2:=Stp.alloc W1 t1 (fun _=>False) (.cells #[nV n] 3) 9
 have b2:=BT.new' W1 t1 9 (w.heap.size+1) hs1 3 #[nV n];obtain⟨W2,hW2⟩: ∃W2,W2=W1.alloc (.cells #[nV n] 3):=⟨_,rfl⟩;rw[<- hW2]at z2 b2;have HW2:=Lib.hid hW2;obtain⟨t2,ht2⟩: ∃t2,t2=upT t1 W1 9:=⟨_,rfl⟩;rw[<- ht2]at z2 b2;clear ht2;have b1:=b1.keep z2 id;have sA:=z1.trans z2 fun _ h=>h
 clear z1 z2;have h2:=h.keep sA fun _ _ h=>h
 have hg2:=hg.keep sA id;have hs2:=hs.keep sA fun _ _ h=>h
 have j27:W2.cell? ⟨g,27,none⟩=some (.bool c.closed):=by obtain⟨gq,gr,gp,bw,h⟩:=h2;exact h.b.b.cell 27
 have jc:W2.cell? ⟨w.heap.size,0,none⟩=some (pV g):=b1.b.cell 0;rw[Hr]at hd;clear hW1 hW2 hs1;go_enter Tryz.func77,Tryz.ntmps77
 go_upto_region 1 with(fail)
 rw[<- HW1.out,<- HW2.out];clear HW1 HW2;cases hc:c.closed
 ·rw[hc]at hd j27
  simp only[Bool.false_eq_true,if_false]at hd;obtain⟨hgd,hd⟩:=aI hd;simp only[Bool.and_eq_true,decide_eq_true_eq,List.all_eq_true]at hgd;obtain⟨hwd,hok,hz⟩:=hgd;have hz1:=fun p hp=>(hz p hp).2
  have hz:=fun p hp=>(hz p hp).1
  obtain⟨a,b,ha,hb,rfl⟩:=Fe hd;obtain rfl:=Option.some.inj ha;have hcl:=fun N=>ND (W2.drewN N) t2 m g cf tv gs c hm (h2.keep ((Stp.refl (fun _=>False) W2 t2).drewN N) fun _ _ h=>h) n _ _ (b1.keep ((Stp.refl (fun _=>False) W2 t2).drewN N) id) (b2.keep ((Stp.refl (fun _=>False) W2 t2).drewN N) id) hn hwd (OE hok) hz hz1
  have hD:=J5 W2 t2 m g cf tv gs c tab ms hg2 hm hms h2 hs2 (Mk m 20) (fun y h=>h) (by omega) hms 131 #[pV w.heap.size,pV (w.heap.size+1)] (fun _ _=>by kernel_rfl) _ b now hb
   (fun _ _=>True) (fun _ _ _ _ _ _=>trivial) (fun N=>(hcl N).mono fun e w' ⟨q1,t',q2,q4⟩=>⟨q1,t',q2,trivial,((Stp.refl _ W2 t2).drewN N).trans q4 fun _ h=>h⟩)
  clear hcl h2 hg2 hs2 b1 b2;go_wp2_with fail
  refine hD.mono ?_;rintro e w5 ⟨rfl,t5,h5,-,s5⟩;have sC:=(sA.mono (S':=Mk m 20) fun _ h=>h.elim).trans s5 fun _ h=>h
  go_wp2_with fail
  go_end0
  exact⟨rfl,t5,h5,sC⟩
 ·rw[hc]at hd j27
  obtain rfl:c=d:=by simpa using hd
  go_wp2_with fail
  refine bodyPost_ret (results_none rfl _ _ _) rfl ?_;exact⟨rfl,t2,h2,sA.mono fun _ h=>h.elim⟩
end
section
variable (w:World) (t:Nat-> Nat) (g:Nat) (s s':SrS) (P:SrP) (L:CL) (i gl gc:Nat) (x:ClS)
structure WatP (s:SrS) (x:ClS):Prop where
 a: ∃y,aT s.poll.all x.handle=some y
 b:iH x.handle
 c:x.c.q.pcs.length<= 10000
 d:x.c.ended=false-> x.c.ending=false-> x.c.ring.length<256/\ x.c.q.pcs.length<s.cf.pipe
theorem Zu {s:SrS} {x:ClS} (h:sO s x=true):WatP s x:=by
 simp only[sO,hnB,Bool.and_eq_true,Bool.or_eq_true,decide_eq_true_eq,Option.isSome_iff_exists]at h;obtain⟨h1,⟨h2,h3⟩,h4,h5⟩:=h
 exact⟨h1,⟨h2,h3⟩,h4,fun a b=>by
  rcases h5 with h5|h5|h5
  ·rw[a]at h5;exact absurd h5 (by simp)
  ·rw[b]at h5;exact absurd h5 (by simp)
  ·exact h5⟩
def NG (s:SrS) (i:Nat):Option SrS:=(s.cl i).bind fun x=>
 if x.over then(s.net.aG[i]?).bind fun n=>aV (uw&&n.op) (some (WR s x))
 else
  aV (uw|| !(decide (x.c.phase=4)&& !x.shut)) <|
  let s:=if decide (x.c.phase=4)&& !x.shut then { s with net:=s.net.up i fun n=>if mJ n then { n with shut:=true } else n }.put i { x with shut:=true } else s
  (s.cl i).bind fun x=>aV (sO s x) (wM { s with poll:=iZ s.poll x.handle (lZ s.cf x.c) (jU x.c) } x)
theorem H9 (now:Nat):gV s i now=(og now 10 s i).bind fun s=>NG s i:=rfl
structure TailP (s s':SrS) (x:ClS):Prop where
 o:x.over=false
 h:(decide (x.c.phase=4)&& !x.shut)=false
 w:WatP s x
 t:wM { s with poll:=iZ s.poll x.handle (lZ s.cf x.c) (jU x.c) } x=some s'
theorem Xr {s s':SrS} {i:Nat} {x:ClS} (hx:s.cl i=some x) (h:NG s i=some s'):TailP s s' x:=by
 rw[NG,hx,Option.bind_some]at h;cases ho:x.over
 ·rw[ho,if_neg (by simp)]at h
  obtain⟨h1,h2⟩:=aI h;have h3:(decide (x.c.phase=4)&& !x.shut)=false:=by rw[uw,Bool.false_or,Bool.not_eq_true']at h1;exact h1
  simp only[h3,Bool.false_eq_true,if_false,hx,Option.bind_some]at h2;obtain⟨h4,h5⟩:=aI h2;exact⟨ho,h3,Zu h4,h5⟩
 ·rw[ho,if_pos rfl,Option.bind_eq_some_iff]at h
  obtain⟨n,-,h⟩:=h;exact absurd (aI h).1 (by simp[uw])
theorem mg (now:Nat) (h:aZ w t g s P L) (hx:aT L i=some (gl,gc,x)) (hs:gV s i now=some s'):
 Calls Tryz.prog 43 #[pV g,pV gl,nV now] w fun e w'=>e= .returned (.tuple #[])/\ ∃t',yC w' t' g s' P/\ Stp SM w t w' t':=by
 rw[H9,Option.bind_eq_some_iff]at hs;obtain⟨sE,hW,hT⟩:=hs;go_enter Tryz.func43,Tryz.ntmps43
 go_upto_block 0 with fail
 go_cut [] (fun wx=> ∃t1 LE xE,aZ wx t1 g sE P LE/\ aT LE i=some (gl,gc,xE)/\ Stp SM w t wx t1)
 case first=>
  go_wp2_with fail
  go_loopg [] 10 (fun gk wr=> ∃t1 s1 L1 x1,aZ wr t1 g s1 P L1/\ aT L1 i=some (gl,gc,x1)/\ Hid (og now gk s1 i=some sE)/\ Stp SM w t wr t1)
  case atStart=>exact⟨t,s,L,x,h,hx,Lib.hid hW,Stp.refl _ _ _⟩
  case round=>
   clear h hx hW hT;obtain⟨t1,s1,L1,x1,h1,hx1,H,st1⟩:=hrel;rcases gk with _|gk
   ·exact absurd H.out (by simp[og])
   ·have hH:=H.out
    rw[og,h1.cl hx1,Option.bind_some]at hH;clear H;have hX:=h1.one hx1;have hiz:i<1000:=hX.z;have hC:=wW wr t1 s1.cf P.tv P.gs i gl gc x1 hX;cases ho:x1.over
    ·rw[ho]at hC hH
     obtain⟨gq,gr,gp',bw,hB⟩:=hX.c;have hLq:=fun n=>rQ (wr.drewN n) t1 (cM i+10+1) gq x1.c.q (hB.keep ((Stp.refl (fun _=>False) wr t1).drewN n) fun _ _ h=>h).q
     have j0:wr.cell? ⟨gl,0,none⟩=some (pV gc):=hX.b.b.cell 0;have k0:wr.cell? ⟨gc,0,none⟩=some (pV gq):=hB.b.b.cell 0;rcases Nat.eq_zero_or_pos x1.c.q.b.length with hq|hq
     ·rw[if_pos (by simp[hq])]at hH
      obtain rfl:=Option.some.inj hH;have hq0:x1.c.q.b= []:=List.eq_nil_of_length_eq_zero hq;rw[hq]at hLq;clear hH hX hB hq0 hq;go_wp2_with fail
      refine hC.mono ?_;rintro e w2 ⟨rfl,q,rfl⟩;go_wp2_with fail
      refine(hLq q).mono ?_;rintro e w3 ⟨rfl,rfl⟩;go_wp2_with fail
      go_meet
      case rel=>exact⟨t1,L1,x1,h1.keep ((Stp.refl (fun _=>False) wr t1).drewN q) (fun _ _ h=>h) id,hx1,st1.drewN q⟩
     ·have hne: ¬x1.c.q.b= []:=fun h=>by rw[h]at hq;simp at hq
      rw[if_neg (by simp[hne])]at hH
      obtain⟨n,hn,hH⟩:=Option.bind_eq_some_iff.1 hH;obtain⟨hgd,hH⟩:=aI hH;simp only[Bool.and_eq_true,decide_eq_true_eq,Bool.not_eq_true']at hgd;obtain⟨n1,n2,n3,n4,hok⟩:=hgd;go_wp2_with fail
      refine hC.mono ?_;rintro e w2 ⟨rfl,q,rfl⟩;go_wp2_with fail
      refine(hLq q).mono ?_;rintro e w3 ⟨rfl,rfl⟩;go_wp2_with fail
      obtain⟨V,hV⟩: ∃V,V=wr.drewN q:=⟨_,rfl⟩;have zq:=(Stp.refl (fun _=>False) wr t1).drewN q
      have h2:=h1.keep zq (fun _ _ h=>h) id
      have st2:=st1.drewN q;have hB2:=hB.keep zq fun _ _ h=>h
      rw[<- hV]at h2 st2 hB2⊢;clear hV zq hLq hC h1 st1 hB j0 k0 hX;have HI:=Lib.hid (show x1.id=i from(h2.one hx1).i)
      have hI: ∀W tW s3 gr gp' bw c3,aZ W tW g s3 P L1-> s3.cf=s1.cf-> BT W tW (cM i+10) gc 131 (uV s1.cf P.tv gq P.gs gr gp' bw c3)-> W.cell? ⟨g,0,none⟩=some (pV P.gp)/\ W.cell? ⟨P.gp,0,none⟩=some (pV P.gn)/\ W.cell? ⟨gl,1,none⟩=some (nV x1.id)/\ W.cell? ⟨gl,0,none⟩=some (pV gc)/\ W.cell? ⟨gc,0,none⟩=some (pV gq):=fun W tW s3 gr gp' bw c3 hh e hb=>⟨hh.b.b.cell 0,hh.Rj,(hh.one hx1).b.b.cell 1,(hh.one hx1).b.b.cell 0,hb.b.cell 0⟩
      have zd:=(Stp.refl (fun _=>False) V t1).drew
      have hd:=h2.keep zd (fun _ _ h=>h) id
      have hBd:=hB2.keep zd fun _ _ h=>h
      have S0:=hI _ _ _ _ _ _ _ h2 rfl hB2.b;have Sd:=hI _ _ _ _ _ _ _ hd rfl hBd.b;have hL:=rQ _ _ _ _ _ hBd.q;have hNx:=WO _ _ _ _ _ x1.c.q.b.length hBd.q (Nat.le_refl _) hok;rw[List.take_length]at hNx;by_cases hw:n.window=0
      ·rw[if_pos hw]at hH
       obtain rfl:=Option.some.inj hH;go_region_held3 (fun W=>W.cell? ⟨g,0,none⟩=some (pV P.gp)/\ W.cell? ⟨P.gp,0,none⟩=some (pV P.gn)/\ W.cell? ⟨gl,1,none⟩=some (nV x1.id)/\ W.cell? ⟨gl,0,none⟩=some (pV gc)/\ W.cell? ⟨gc,0,none⟩=some (pV gq))
        (first|exact S0|exact Sd|exact X5|go_keep)
        (first
          | (go_at_call 74
             refine hL.mono ?_
             rintro e w4 ⟨rfl,rfl⟩)
          | (go_at_call 76
             refine hNx.mono ?_;rintro e w5 ⟨v5,rfl,ho5,L5⟩;obtain⟨A5,c5,rfl,hc5,-,hr5⟩:=ho5.form;have z5:=Stp.below L5 (fun _=>False) t1
             have h5:=hd.keep z5 (fun _ _ h=>h) id
             have X5:=hI _ _ _ _ _ _ _ h5 rfl (hBd.b.keep z5 id);have hWr:=Nq w5 t1 1000 P.gn s1.net i n x1.c.q.b.length h5.net hn n1 n2 hq hw A5 c5
             rw[<- HI.out]at hWr)
          | (go_at_call 75
             refine hWr.mono ?_
             rintro e w6 ⟨rfl,rfl⟩))
       go_wp2_with fail
       go_meet
       case rel=>exact⟨t1,L1,x1,h5,hx1,(st2.trans zd fun _ h=>h.elim).trans z5 fun _ h=>h.elim⟩
      ·rw[if_neg hw]at hH
       obtain⟨c',hc',hH⟩:=Option.bind_eq_some_iff.1 hH;go_region_held3 (fun W=>W.cell? ⟨g,0,none⟩=some (pV P.gp)/\ W.cell? ⟨P.gp,0,none⟩=some (pV P.gn)/\ W.cell? ⟨gl,1,none⟩=some (nV x1.id)/\ W.cell? ⟨gl,0,none⟩=some (pV gc)/\ W.cell? ⟨gc,0,none⟩=some (pV gq))
        (first|exact S0|exact Sd|exact X5|exact X6|go_keep)
        (first
          | (go_at_call 74
             refine hL.mono ?_
             rintro e w4 ⟨rfl,rfl⟩)
          | (go_at_call 76
             refine hNx.mono ?_;rintro e w5 ⟨v5,rfl,ho5,L5⟩;obtain⟨A5,c5,rfl,hc5,-,hr5⟩:=ho5.form;have z5:=Stp.below L5 (fun _=>False) t1
             have h5:=hd.keep z5 (fun _ _ h=>h) id
             have X5:=hI _ _ _ _ _ _ _ h5 rfl (hBd.b.keep z5 id);have hWr:=EW w5 t1 1000 P.gn s1.net i n x1.c.q.b h5.net hn n1 n2 hok hq n3 n4 (by omega) A5 c5 hc5 hr5
             rw[<- HI.out]at hWr)
          | (go_at_call 75
             refine hWr.mono ?_;rintro e w6 ⟨rfl,t6,hn6,s6⟩;rw[HI.out]at hn6;have h6:=h5.kE _ s6 hn6
             have X6:=hI _ _ _ _ _ _ _ h6 rfl ((hBd.b.keep z5 id).keep s6 (by have e0:cM i=3000+50*i:=rfl;omega))))
       have sA:=((st2.trans zd fun _ h=>h.elim).trans z5 fun _ h=>h.elim).trans s6 fun y (h:Mk 1000 1000 y)=>(show SM y by omega)
       have hX6:=h6.one hx1;have j0:w6.cell? ⟨gl,0,none⟩=some (pV gc):=hX6.b.b.cell 0;have e0: ∀y,Mk 20 10 y-> ¬Mk (cM i+10) 20 y:=fun y hy=>by have e0:cM i=3000+50*i:=rfl;omega
       have hWt:=RG w6 t6 (cM i+10) gc s1.cf P.tv P.gs x1.c s1.tab 20 h6.gl (by omega) e0 hX6.c h6.site c' (min x1.c.q.b.length n.window) now (Nat.min_le_left _ _) hc'
       have HH:=Lib.hid hH;clear hX6 h5 hWr X5 X6 S0 Sd hI hL hNx hBd hB2 hd h2 st2 zd z5 s6 hn6 hc5 hr5 ho5 L5 hH hc' e0;go_wp2_with fail
       refine hWt.mono ?_;rintro e w7 ⟨rfl,t7,hc7,s7⟩;have h7:=h6.Xi hx1 c' s7 hc7;go_wp2_with fail
       go_roundg gk
       case rel=>exact⟨t7,_,_,_,h7,dw hx1 _,Lib.hid HH.out,sA.trans s7 fun y hy=>by have e0:cM i=3000+50*i:=rfl;omega⟩
       case measure=>omega
    ·rw[ho,if_pos (by simp)]at hH
     rw[ho]at hC;obtain rfl:=Option.some.inj hH;clear hH hX;go_wp2_with fail
     refine hC.mono ?_;rintro e w2 ⟨rfl,q,rfl⟩;go_wp2_with fail
     go_meet
     case rel=>exact⟨t1,L1,x1,h1.keep ((Stp.refl (fun _=>False) wr t1).drewN q) (fun _ _ h=>h) id,hx1,st1.drewN q⟩
 case rest=>
  obtain⟨t1,LE,xE,h1,hx1,st1⟩:=hcut;clear h hx hW;have hP:=Xr (h1.cl hx1) hT;clear hT;obtain⟨po,ph,pw,pt⟩:=hP;have hX:=h1.one hx1;have hC:=wW wc t1 sE.cf P.tv P.gs i gl gc xE hX;rw[po]at hC;have j0:wc.cell? ⟨gl,0,none⟩=some (pV gc):=hX.b.b.cell 0;have j10:wc.cell? ⟨gl,10,none⟩=some (.bool xE.shut):=hX.b.b.cell 10;have hSq:=fun n=>W9 (wc.drewN n) t1 (cM i+10) gc sE.cf P.tv P.gs xE.c ((hX.keep ((Stp.refl (fun _=>False) wc t1).drewN n) fun _ _ h=>h).c)
  cases hd4:decide (xE.c.phase=4)
  ·rw[hd4]at hSq
   have hd4:=Lib.hid hd4;go_wp2_with fail
   refine hC.mono ?_;rintro e w2 ⟨rfl,q,rfl⟩;go_wp2_with fail
   refine(hSq q).mono ?_;rintro e w3 ⟨rfl,q',rfl⟩;clear hSq hC;go_upto_region 11 with(fail)
   obtain⟨V,hV⟩: ∃V,V=wc.drewN (q+q'):=⟨_,rfl⟩;have h2:=h1.keep ((Stp.refl (fun _=>False) wc t1).drewN (q+q')) (fun _ _ h=>h) id
   have st2:=st1.drewN (q+q');rw[<- hV]at h2 st2⊢;clear hV h1 st1 j0 j10 hX;have zd:=(Stp.refl (fun _=>False) V t1).drew
   have hd:=h2.keep zd (fun _ _ h=>h) id
   have hI: ∀W tW s3,aZ W tW g s3 P LE-> W.cell? ⟨g,0,none⟩=some (pV P.gp)/\ W.cell? ⟨gl,4,none⟩=some (nV xE.handle.1)/\ W.cell? ⟨gl,5,none⟩=some (nV xE.handle.2):=fun W tW s3 hh=>⟨hh.b.b.cell 0,(hh.one hx1).b.b.cell 4,(hh.one hx1).b.b.cell 5⟩
   have S0:=hI _ _ _ h2;have Sd:=hI _ _ _ hd;have hR:=E8 _ _ _ _ _ _ _ _ _ (hd.one hx1) (by have:=pw.c;omega) pw.d
   obtain⟨y,hy⟩:=pw.a;have pwd:=Lib.hid pw.d;have pwc:=pw.c;have pwb:=Lib.hid pw.b;have HY:=Lib.hid hy;have PT:=Lib.hid pt;clear pw hy pt po ph;go_region_held3 (fun W=>W.cell? ⟨g,0,none⟩=some (pV P.gp)/\ W.cell? ⟨gl,4,none⟩=some (nV xE.handle.1)/\ W.cell? ⟨gl,5,none⟩=some (nV xE.handle.2))
    (first|exact S0|exact Sd|exact X4|exact X5|exact X6|go_keep)
    (first
      | (go_at_call 81
         refine hR.mono ?_;rintro e w4 ⟨rfl,L4⟩;have z4:=Stp.below L4 (fun _=>False) t1
         have h4:=hd.keep z4 (fun _ _ h=>h) id
         have X4:=hI _ _ _ h4
         have hW5:=CP _ _ _ _ _ _ _ _ _ (h4.one hx1) (by omega) pwd.out)
      | (go_at_call 82
         refine hW5.mono ?_;rintro e w5 ⟨rfl,L5⟩;have z5:=Stp.below L5 (fun _=>False) t1
         have h5:=h4.keep z5 (fun _ _ h=>h) id
         have X5:=hI _ _ _ h5
         have hCh:=lX w5 t1 60 P.gn P.gp sE.poll xE.handle (lZ sE.cf xE.c) (jU xE.c) y h5.poll pwb.out HY.out)
      | (go_at_call 47
         refine hCh.mono ?_;rintro e w6 ⟨rfl,t6,hp6,s6⟩;have h6:=h5.wU _ s6 hp6
         have X6:=hI _ _ _ h6))
   have sA:=(((st2.trans zd fun _ h=>h.elim).trans z4 fun _ h=>h.elim).trans z5 fun _ h=>h.elim).trans s6 fun y (h:Mk 60 10 y)=>(show SM y by omega)
   have hT:=Fb w6 t6 g _ s' P LE i gl gc xE h6 hx1 PT.out;clear hR hW5 hCh X4 X5 X6 S0 Sd hI hd h2 st2 zd h4 h5 z4 z5 s6 hp6 L4 L5 PT HY;go_wp2_with fail
   refine hT.mono ?_;rintro e w7 ⟨rfl,t7,h7,s7⟩;go_wp2_with fail
   go_end0
   exact⟨rfl,t7,h7,sA.trans s7 fun _ h=>h⟩
  ·rw[hd4]at hSq
   rw[hd4,Bool.true_and,Bool.not_eq_false']at ph;rw[ph]at j10;have hd4:=Lib.hid hd4;go_wp2_with fail
   refine hC.mono ?_;rintro e w2 ⟨rfl,q,rfl⟩;go_wp2_with fail
   refine(hSq q).mono ?_;rintro e w3 ⟨rfl,q',rfl⟩;clear hSq hC;go_upto_region 11 with(fail)
   obtain⟨V,hV⟩: ∃V,V=wc.drewN (q+q'):=⟨_,rfl⟩;have h2:=h1.keep ((Stp.refl (fun _=>False) wc t1).drewN (q+q')) (fun _ _ h=>h) id
   have st2:=st1.drewN (q+q');rw[<- hV]at h2 st2⊢;clear hV h1 st1 j0 j10 hX;have zd:=(Stp.refl (fun _=>False) V t1).drew
   have hd:=h2.keep zd (fun _ _ h=>h) id
   have hI: ∀W tW s3,aZ W tW g s3 P LE-> W.cell? ⟨g,0,none⟩=some (pV P.gp)/\ W.cell? ⟨gl,4,none⟩=some (nV xE.handle.1)/\ W.cell? ⟨gl,5,none⟩=some (nV xE.handle.2):=fun W tW s3 hh=>⟨hh.b.b.cell 0,(hh.one hx1).b.b.cell 4,(hh.one hx1).b.b.cell 5⟩
   have S0:=hI _ _ _ h2;have Sd:=hI _ _ _ hd;have hR:=E8 _ _ _ _ _ _ _ _ _ (hd.one hx1) (by have:=pw.c;omega) pw.d
   obtain⟨y,hy⟩:=pw.a;have pwd:=Lib.hid pw.d;have pwc:=pw.c;have pwb:=Lib.hid pw.b;have HY:=Lib.hid hy;have PT:=Lib.hid pt;clear pw hy pt po ph;go_region_held3 (fun W=>W.cell? ⟨g,0,none⟩=some (pV P.gp)/\ W.cell? ⟨gl,4,none⟩=some (nV xE.handle.1)/\ W.cell? ⟨gl,5,none⟩=some (nV xE.handle.2))
    (first|exact S0|exact Sd|exact X4|exact X5|exact X6|go_keep)
    (first
      | (go_at_call 81
         refine hR.mono ?_;rintro e w4 ⟨rfl,L4⟩;have z4:=Stp.below L4 (fun _=>False) t1
         have h4:=hd.keep z4 (fun _ _ h=>h) id
         have X4:=hI _ _ _ h4
         have hW5:=CP _ _ _ _ _ _ _ _ _ (h4.one hx1) (by omega) pwd.out)
      | (go_at_call 82
         refine hW5.mono ?_;rintro e w5 ⟨rfl,L5⟩;have z5:=Stp.below L5 (fun _=>False) t1
         have h5:=h4.keep z5 (fun _ _ h=>h) id
         have X5:=hI _ _ _ h5
         have hCh:=lX w5 t1 60 P.gn P.gp sE.poll xE.handle (lZ sE.cf xE.c) (jU xE.c) y h5.poll pwb.out HY.out)
      | (go_at_call 47
         refine hCh.mono ?_;rintro e w6 ⟨rfl,t6,hp6,s6⟩;have h6:=h5.wU _ s6 hp6
         have X6:=hI _ _ _ h6))
   have sA:=(((st2.trans zd fun _ h=>h.elim).trans z4 fun _ h=>h.elim).trans z5 fun _ h=>h.elim).trans s6 fun y (h:Mk 60 10 y)=>(show SM y by omega)
   have hT:=Fb w6 t6 g _ s' P LE i gl gc xE h6 hx1 PT.out;clear hR hW5 hCh X4 X5 X6 S0 Sd hI hd h2 st2 zd h4 h5 z4 z5 s6 hp6 L4 L5 PT HY;go_wp2_with fail
   refine hT.mono ?_;rintro e w7 ⟨rfl,t7,h7,s7⟩;go_wp2_with fail
   go_end0
   exact⟨rfl,t7,h7,sA.trans s7 fun _ h=>h⟩
end
end Go.Proofs.YtdmondfpepbniaaGreatDoor
