/- Part 42 of the proof: VmE VmF. -/
import Derived.Test.YtdmondfpepbniaaGreatDoorQ38
import Derived.Test.YtdmondfpepbniaaGreatDoorQ41
namespace Go.Proofs.YtdmondfpepbniaaGreatDoor
open Go.RowKit
set_option maxRecDepth 100000
set_option maxHeartbeats 4000000
set_option linter.all false
section
variable (w:World) (t:Nat-> Nat) (g:Nat) (s s':SrS) (P:SrP) (L:CL)
theorem Sj (m gr now:Nat) (hm:1<= m) (h:aZ w t g s P L) (hr:jo w t (m+8) gr []) (hn:now<= 1000000):
 Calls Tryz.prog 190 #[pV g,pV gr,nV now] w fun e w'=> ∃gc,e= .returned (pV gc)/\ ∃t',dK w' t' m gc s.cf P.tv P.gs (cn0 now)/\ Stp (fun _=>False) w t w' t':=by
 have zd:=(Stp.refl (fun _=>False) w t).drew
 have hN:=Zw w.drew t m s.cf P.tv P.gs gr now (h.gl.keep zd id) hm h.ok (hr.keep zd id id) hn;have k0:w.cell? ⟨g,1,none⟩=some (nV s.cf.jE):=h.b.b.cell 1;have k1:w.cell? ⟨g,2,none⟩=some (nV s.cf.jF):=h.b.b.cell 2;have k2:w.cell? ⟨g,3,none⟩=some (nV s.cf.pipe):=h.b.b.cell 3;have k3:w.cell? ⟨g,4,none⟩=some (nV s.cf.jg):=h.b.b.cell 4;have k4:w.cell? ⟨g,5,none⟩=some (nV s.cf.idle):=h.b.b.cell 5;have k5:w.cell? ⟨g,6,none⟩=some (nV s.cf.head):=h.b.b.cell 6;have k6:w.cell? ⟨g,7,none⟩=some (nV s.cf.body):=h.b.b.cell 7;have k7:w.cell? ⟨g,8,none⟩=some (nV s.cf.write):=h.b.b.cell 8;have k8:w.cell? ⟨g,9,none⟩=some (nV s.cf.bC):=h.b.b.cell 9;have k9:w.cell? ⟨g,10,none⟩=some (nV s.cf.jR):=h.b.b.cell 10;have k10:w.cell? ⟨g,11,none⟩=some (nV s.cf.gJ):=h.b.b.cell 11;have k11:w.cell? ⟨g,12,none⟩=some (nV s.cf.base):=h.b.b.cell 12;have k12:w.cell? ⟨g,13,none⟩=some (nV s.cf.cap):=h.b.b.cell 13;have k13:w.cell? ⟨g,14,none⟩=some (.bool s.cf.refuse):=h.b.b.cell 14;have k14:w.cell? ⟨g,15,none⟩=some (.bool s.cf.dV):=h.b.b.cell 15;have k15:w.cell? ⟨g,16,none⟩=some (P.tv):=h.b.b.cell 16;have k16:w.cell? ⟨g,17,none⟩=some (pV P.gs):=h.b.b.cell 17;clear h hr;go_enter Tryz.func190,Tryz.ntmps190
 go_wp2_with fail
 go_region_with (go_at_call 242;refine hN.mono ?_;rintro e w2 ⟨gc,rfl,t2,hc2,s2⟩)
 all_goals go_wp2_with fail
 all_goals go_ret
 all_goals exact⟨_,rfl,_,hc2,zd.trans s2 fun _ h=>h⟩
theorem Sl (c peer now:Nat) (n:NC) (h:aZ w t g s P L) (hn:s.net.aG[c]? = some n) (ho:n.op=true) (hs:sS s c peer now=some s'):
 Calls Tryz.prog 146 #[pV g,nV c,nV peer,nV now] w fun e w'=>e= .returned (.tuple #[])/\ ∃t',yC w' t' g s' P/\ Stp SM w t w' t':=by
 rw[sS]at hs;obtain⟨hg1,hs⟩:=aI hs;simp only[Bool.and_eq_true,decide_eq_true_eq,Bool.not_eq_true',JH]at hg1;obtain⟨g1,g2,g3,g4,g5,g6,⟨g7,-⟩,g8⟩:=hg1;simp only at hs;obtain⟨hg2,hs⟩:=aI hs;have hno: ∀y∈s.poll.all,y.2.id≠(c:Int):=by
  intro y hy e;have:=List.all_eq_true.1 hg2 y hy;rw[e]at this;simp at this
 have e0:cM c=3000+50*c:=rfl;have hG:=Zh w t 50 P.gr (cM c+10+8) s.pool h.pool g1 g2 g3 (by omega)
 have j20:w.cell? ⟨g,20,none⟩=some (pV P.gr):=h.b.b.cell 20;clear e0;go_enter Tryz.func146,Tryz.ntmps146
 go_wp2_with fail
 refine hG.mono ?_;rintro e w1 ⟨gr,t1,rfl,-,hr1,hp1,s1⟩;have h1:=h.Zj _ s1 hp1;have sA:=s1.mono (S':=SM) fun y (h:Mk 50 2 y)=>(show SM y by omega)
 clear hG h hp1 s1 j20 hg2;go_upto_region 6 with(fail)
 have z2:=Stp.alloc w1 t1 (fun _=>False) (.cells #[.pointer none,nV c,nV peer,nV (jS s.pool).2,.int .i64 0,.int .i64 0,.int .i64 0,.int .i64 0,.bool false,.int .i64 0,.bool false] 80) (cM c)
 have b2:=BT.new' w1 t1 (cM c) w1.heap.size rfl 80 #[.pointer none,nV c,nV peer,nV (jS s.pool).2,.int .i64 0,.int .i64 0,.int .i64 0,.int .i64 0,.bool false,.int .i64 0,.bool false];obtain⟨W2,hW2⟩: ∃W,W=w1.alloc (.cells #[.pointer none,nV c,nV peer,nV (jS s.pool).2,.int .i64 0,.int .i64 0,.int .i64 0,.int .i64 0,.bool false,.int .i64 0,.bool false] 80):=⟨_,rfl⟩;obtain⟨gl,hgl⟩: ∃y,y=w1.heap.size:=⟨_,rfl⟩;obtain⟨t2,ht2⟩: ∃y,y=upT t1 w1 (cM c):=⟨_,rfl⟩;rw[<- hW2,<- ht2]at z2 b2;rw[<- hgl]at b2⊢;rw[<- hW2];clear hW2 hgl ht2;have h2:=h1.keep z2 (fun _ _ h=>h) id
 have hr2:=hr1.keep z2 id id;have sB:=sA.trans z2 fun _ h=>h.elim
 have hB:=Sj W2 t2 g _ P L (cM c+10) gr now (by omega) h2 hr2 g6
 clear h1 hr1 sA z2 hr2;go_wp2_with fail
 refine hB.mono ?_;rintro e w3 ⟨gc,rfl,t3,hc3,s3⟩;clear hB;have b3:=b2.keep s3 id;have h3:=h2.keep s3 (fun _ _ h=>h) id
 have sC:=sB.trans s3 fun _ h=>h.elim
 have i0:w3.cell? ⟨gl,0,none⟩=some (.pointer none):=b3.b.cell 0;have f0:w3.frozen? ⟨gl,0,none⟩=false:=b3.b.frozen 0;obtain⟨b4,z4⟩:=b3.aH 0 (pV gc);have b4:BT (w3.setCell ⟨gl,0,none⟩ (pV gc)) t3 (cM c) gl 80 #[pV gc,nV c,nV peer,nV (jS s.pool).2,.int .i64 0,.int .i64 0,.int .i64 0,.int .i64 0,.bool false,.int .i64 0,.bool false]:=b4;have e0:cM c=3000+50*c:=rfl;have h4:=h3.OH g5 g8 (z4.mono fun y (h:y=cM c)=>(show Mk (cM c) 50 y by omega))
 have hc4:=hc3.keep z4 (fun y hy=>by omega)
 have sD:=sC.trans z4 fun y (h:y=cM c)=>(show SM y by omega)
 obtain⟨W4,hW4⟩: ∃W,W=w3.setCell ⟨gl,0,none⟩ (pV gc):=⟨_,rfl⟩;rw[<- hW4]at b4 h4 hc4 sD;have HW4:=Lib.hid hW4;clear hW4 h2 h3 b2 b3 hc3 sB sC s3 z4 e0;have hWt:=CG W4 t3 60 P.gn P.gp 1000 s.net s.poll (c:Int) false false h4.poll (.inr ⟨c,n,rfl,h4.net,hn,ho⟩) hno g4;obtain⟨Q,hQ⟩: ∃Q,Q=mO s.poll (c:Int) false false:=⟨_,rfl⟩;rw[<- hQ]at hWt hs;clear hQ;obtain⟨po,q1,q2⟩:=Q;simp only at hWt hs;have j0:W4.cell? ⟨g,0,none⟩=some (pV P.gp):=h4.b.b.cell 0;go_upto_region 7 with(fail)
 rw[<- HW4.out];clear HW4 i0 f0;go_wp2_with fail
 refine hWt.mono ?_;rintro e w5 ⟨rfl,t5,hp5,s5⟩;clear hWt j0;have e0:cM c=3000+50*c:=rfl;have h5:=h4.wU _ s5 hp5;have b5:=b4.keep s5 (by omega)
 have hc5:=hc4.keep s5 (fun y hy=>by omega)
 have sE:=sD.trans s5 fun y (h:Mk 60 10 y)=>(show SM y by omega)
 have i4:w5.cell? ⟨gl,4,none⟩=some (.int .i64 0):=b5.b.cell 4;have i5:w5.cell? ⟨gl,5,none⟩=some (.int .i64 0):=b5.b.cell 5;have f4:w5.frozen? ⟨gl,4,none⟩=false:=b5.b.frozen 4;have f5:w5.frozen? ⟨gl,5,none⟩=false:=b5.b.frozen 5;obtain⟨b6,z6⟩:=b5.aH 4 (nV q1);obtain⟨b7,z7⟩:=b6.aH 5 (nV q2);have b7:BT ((w5.setCell ⟨gl,4,none⟩ (nV q1)).setCell ⟨gl,5,none⟩ (nV q2)) t5 (cM c) gl 80 (clC gc ⟨cn0 now,c,peer,(jS s.pool).2,(q1,q2),(0,0),false,0,false⟩):=b7;have z67:=(z6.trans z7 fun _ h=>h).mono (S':=Mk (cM c) 50) fun y (h:y=cM c)=>(show Mk (cM c) 50 y by omega)
 have h7:=h5.OH g5 g8 z67;have hc7:=hc5.keep (z6.trans z7 fun _ h=>h) (fun y hy (h:y=cM c)=>by omega)
 have sF:=sE.trans z67 fun y (h:Mk (cM c) 50 y)=>(show SM y by omega)
 obtain⟨W7,hW7⟩: ∃W,W=(w5.setCell ⟨gl,4,none⟩ (nV q1)).setCell ⟨gl,5,none⟩ (nV q2):=⟨_,rfl⟩;rw[<- hW7]at b7 h7 hc7 sF;have HW7:=Lib.hid hW7;clear hW7 h4 h5 b4 b5 b6 hc4 hc5 sD sE z6 z7 z67 s5 hp5 e0;have j21:W7.cell? ⟨g,21,none⟩=some (.map (some P.bm)):=h7.b.b.cell 21;go_upto_region 8 with(fail)
 rw[<- HW7.out];clear HW7 i4 i5 f4 f5;go_wp2_with (at_mapUpdate;go_must (refine Uf rfl _ _ _ 70 rfl BH Tryz.underlying70 h7.all rfl c (by show c<= _;omega) rfl (gl,gc,(⟨cn0 now,c,peer,(jS s.pool).2,(q1,q2),(0,0),false,0,false⟩:ClS)) rfl ?_;intro w8 hm8 hs8;have j26:w8.cell? ⟨g,26,none⟩=some (nV s.accepted):=(h7.b.keep (hs8 (fun x=>x=11) rfl) (by omega)).b.cell 26;have f26:w8.frozen? ⟨g,26,none⟩=false:=(h7.b.keep (hs8 (fun x=>x=11) rfl) (by omega)).b.frozen 26))
 have e0:cM c=3000+50*c:=rfl;have s8:=hs8 (fun y=>y=11) rfl
 obtain⟨h8,hx8⟩:=h7.newCl (x:=(⟨cn0 now,c,peer,(jS s.pool).2,(q1,q2),(0,0),false,0,false⟩:ClS)) (gl:=gl) (gc:=gc) g5 s8 hm8 ⟨b7.keep s8 (by show¬cM c=11;omega),hc7.keep s8 (fun y (hy:Mk (cM c+10) 20 y) (h:y=11)=>by omega),rfl,g8⟩
 obtain⟨h9,z9⟩:=h8.set 26 (.int .i64 ((s.accepted:Int)+1)) ({ ({ s with pool:=(jS s.pool).1,poll:=po } :SrS).put c (⟨cn0 now,c,peer,(jS s.pool).2,(q1,q2),(0,0),false,0,false⟩:ClS)with accepted:=s.accepted+1 }) rfl rfl;have sG:=(sF.trans s8 fun y (h:y=11)=>(show SM y by omega)).trans z9 fun y (h:y=10)=>(show SM y by omega)
 refine(mg _ t5 g _ s' P _ c gl gc (⟨cn0 now,c,peer,(jS s.pool).2,(q1,q2),(0,0),false,0,false⟩:ClS) now h9 hx8 hs).mono ?_;rintro e w9 ⟨rfl,t9,h10,s10⟩;go_wp2_with fail
 go_end0
 exact⟨rfl,t9,h10,sG.trans s10 fun _ h=>h⟩
end
theorem NJ:dh (Gp 503)=true:=by decide +kernel
theorem qY:Light (Gp 503):=⟨by decide,by decide,by decide,by decide⟩
theorem cn_z (x:RsP) (h:x.r=Gp 503):RsZ x:=⟨by rw[h];intro f hf;have:=qY.e f hf;omega,by rw[h];decide,by rw[h];decide,by rw[h];decide⟩
theorem aa0:encR (Gp 503) false 1 true=(kC,0):=Prod.ext rfl (by rw[yh _ _ _ _ qY,if_pos NJ])
theorem aa1:kC.length<= 65536:=by
 rw[kC,yh _ _ _ _ qY,if_pos NJ];exact rY _ _ _ _ qY NJ
theorem aa2:0<kC.length:=by decide +kernel
section
variable (w:World) (t:Nat-> Nat) (g:Nat) (s s':SrS) (P:SrP) (L:CL)
theorem Sr (now:Nat) (b:Bool) (h:aZ w t g s P L) (hs:pq s now=some (s',b)):
 Calls Tryz.prog 90 #[pV g,nV now] w fun e w'=>e= .returned (.bool b)/\ ∃t',yC w' t' g s' P/\ Stp SM w t w' t':=by
 rw[pq]at hs;obtain⟨hg1,hs⟩:=aI hs;simp only[Bool.and_eq_true,decide_eq_true_eq,Bool.not_eq_true',JH]at hg1;obtain⟨g1,⟨g2,g3,g4,g5,g6,g7,g8⟩,g9,g10,g11,g12,g13,g14⟩:=hg1;rcases hq:s.net.queue with _| ⟨c,r⟩
 ·rw[hq]at hs;exact absurd hs (by simp)
 rw[hq]at hs;simp only at hs;have j0:w.cell? ⟨g,0,none⟩=some (pV P.gp):=h.b.b.cell 0;have jp:=h.Rj;by_cases hf:0<s.net.fails
 ·rw[if_pos hf]at hs
  simp only[Option.some.injEq,Prod.mk.injEq]at hs;obtain⟨rfl,rfl⟩:=hs;have hA:=yB w t 1000 P.gn s.net h.net g1 (by rw[hq];simp) hf g9
  go_enter Tryz.func90,Tryz.ntmps90
  go_wp2_with fail
  refine hA.mono ?_;rintro e w1 ⟨rfl,t1,hn1,s1⟩;have h1:=h.kE _ s1 hn1;have sA:=s1.mono (S':=SM) fun y (h:Mk 1000 1000 y)=>(show SM y by omega)
  clear hA h s1 hn1 j0 jp hq hf;have j30:w1.cell? ⟨g,30,none⟩=some (nV s.failed):=h1.b.b.cell 30;have f30:w1.frozen? ⟨g,30,none⟩=false:=h1.b.b.frozen 30;obtain⟨h2,z2⟩:=h1.set 30 (.int .i64 ((s.failed:Int)+1)) { s with net:= { s.net with fails:=s.net.fails-1 },failed:=s.failed+1 } rfl rfl;have sB:=sA.trans z2 fun y (h:y=10)=>(show SM y by omega)
  have i18:(w1.setCell ⟨g,30,none⟩ (.int .i64 ((s.failed:Int)+1))).cell? ⟨g,18,none⟩=some (pV P.gg):=h2.b.b.cell 18;have hF:=MP _ _ 40 P.gg s.cf P.tg s.gate now h2.gate h2.ok.a12 (by have:=h2.ok.a11;simp only at this;omega) g13 g12 (by simp only[ticks];omega)
  clear h1 z2 sA;go_wp2_with fail
  refine hF.mono ?_;rintro e w3 ⟨rfl,t3,hg3,s3⟩;have h3:=h2.H7 _ s3 hg3;go_wp2_with fail
  go_ret
  exact⟨rfl,t3,⟨L,h3⟩,sB.trans s3 fun y (h:Mk 40 5 y)=>(show SM y by omega)⟩
 ·rw[if_neg hf]at hs
  obtain⟨n,hn,hs⟩:=Option.bind_eq_some_iff.1 hs;obtain⟨hg2,hs⟩:=aI hs;simp only[Bool.and_eq_true,decide_eq_true_eq]at hg2;obtain⟨k1,k2⟩:=hg2;by_cases hk:(pI s.cf s.gate n.peer).2=1
  ·rw[if_pos hk]at hs
   obtain⟨s5,hs5,hs⟩:=Option.map_eq_some_iff.1 hs;simp only[Prod.mk.injEq]at hs;obtain⟨rfl,rfl⟩:=hs;have hA:=CO w t 1000 P.gn s.net c r n h.net g1 hq (by omega) hn g10
   go_enter Tryz.func90,Tryz.ntmps90
   go_wp2_with fail
   refine hA.mono ?_;rintro e w1 ⟨rfl,t1,hn1,s1⟩;have h1:=h.kE _ s1 hn1;have sA:=s1.mono (S':=SM) fun y (h:Mk 1000 1000 y)=>(show SM y by omega)
   have hT:=JD w1 t1 40 P.gg s.cf P.tg s.gate n.peer h1.gate (by show n.peer<= _;omega) k2 g11
   have j18:w1.cell? ⟨g,18,none⟩=some (pV P.gg):=h1.b.b.cell 18;rw[hk]at hT;clear hA h s1 hn1 j0 jp;go_wp2_with fail
   refine hT.mono ?_;rintro e w2 ⟨rfl,t2,hg2,s2⟩;have h2:=h1.H7 _ s2 hg2;have sB:=sA.trans s2 fun y (h:Mk 40 5 y)=>(show SM y by omega)
   have hn2:(({ s.net.up c eH with queue:=r,op:=s.net.op+1 } :cu).aG[c]?)=some (eH n):=by
    show(s.net.aG.modify c eH)[c]? = _;rw[List.getElem?_modify_eq,hn];rfl
   have hK:=Sl w2 t2 g _ s5 P L c n.peer now (eH n) h2 hn2 rfl hs5;clear hT h1 sA h2 hg2 s2 j18;go_wp2_with fail
   refine hK.mono ?_;rintro e w3 ⟨rfl,t3,h3,s3⟩;go_wp2_with fail
   go_ret
   exact⟨rfl,t3,h3,sB.trans s3 fun y h=>h⟩
  ·rw[if_neg hk]at hs
   obtain⟨hg3,hs⟩:=aI hs;simp only[Bool.and_eq_true,decide_eq_true_eq,Bool.not_eq_true']at hg3;obtain⟨-,d1,d2,d3,d4,d5,d6,d7⟩:=hg3;simp only[Option.some.injEq,Prod.mk.injEq]at hs;obtain⟨rfl,rfl⟩:=hs;have hA:=CO w t 1000 P.gn s.net c r n h.net g1 hq (by omega) hn g10
   go_enter Tryz.func90,Tryz.ntmps90
   go_wp2_with fail
   refine hA.mono ?_;rintro e w1 ⟨rfl,t1,hn1,s1⟩;have h1:=h.kE _ s1 hn1;have sA:=s1.mono (S':=SM) fun y (h:Mk 1000 1000 y)=>(show SM y by omega)
   have hT:=JD w1 t1 40 P.gg s.cf P.tg s.gate n.peer h1.gate (by show n.peer<= _;omega) k2 g11
   have j18:w1.cell? ⟨g,18,none⟩=some (pV P.gg):=h1.b.b.cell 18;rw[d1]at hT;clear hA h s1 hn1 j0 jp;go_wp2_with fail
   refine hT.mono ?_;rintro e w2 ⟨rfl,t2,hg2,s2⟩;have h2:=h1.H7 _ s2 hg2;have sB:=sA.trans s2 fun y (h:Mk 40 5 y)=>(show SM y by omega)
   have hCn:=KN 503 none 0 0 [] w2 (Rd.nil _ _ _ _) (by decide) (by decide) h2.gl.tb (by decide)
   clear hT h1 sA hg2 s2 j18;go_wp2_with fail
   refine hCn.mono ?_;rintro e w3 ⟨v,rfl,⟨Af,nf,cf',Ab,nb,cb,rfl,hrf,hrb,hcf,hcb⟩,L3⟩;have z3:=Stp.below L3 (fun _=>False) t2
   have h3:=h2.keep z3 (fun _ _ h=>h) id
   have hnf:nf=(lN 503 []).length:=by have:=hrf.1;rw[oD]at this;omega
   have hnb:nb=(lQ 503).length:=by have:=hrb.1;simp only[List.length_map]at this;omega
   subst hnf;subst hnb;have hX:RsR w3 ⟨Gp 503,Af,cf',Ab,cb,none,0⟩:=⟨hrf,hrb,Rd.nil _ _ _ _,hcf,hcb,Nat.le_refl _⟩;have hE:=Cm ⟨Gp 503,Af,cf',Ab,cb,none,0⟩ false 1 true w3 hX (cn_z _ rfl) h3.gl.tz h3.gl.tb fun _=>qY
   rw[aa0]at hE;have hE:Calls Tryz.prog 147 #[.agg #[.int .i64 503,.slice Af (lN 503 []).length cf',.slice Ab (lQ 503).length cb,.slice none 0 0],.bool false,.int .i64 1,.bool true] w3 (wO w3 (kC,0)):=hE;have sC:=sB.trans z3 fun _ h=>h.elim
   clear hCn h2 sB hrf hrb hcf hcb L3 z3 hX;go_wp2_with fail
   refine hE.mono ?_;rintro e w4 ⟨A4,c4,rfl,hc4,hO4,L4⟩;have z4:=Stp.below L4 (fun _=>False) t2
   have h4:=h3.keep z4 (fun _ _ h=>h) id
   obtain⟨-,-,XA⟩:=hO4.rdS;have sD:=sC.trans z4 fun _ h=>h.elim
   have hn4:(({ s.net.up c eH with queue:=r,op:=s.net.op+1 } :cu).aG[c]?)=some (eH n):=by
    show(s.net.aG.modify c eH)[c]? = _;rw[List.getElem?_modify_eq,hn];rfl
   have hW:=EW w4 t2 1000 P.gn _ c (eH n) kC h4.net hn4 (by simp[mJ,eH,d2]) d3 (by have:=aa1;omega) aa2 d4 d6 d5 A4 c4 hc4 XA
   obtain⟨X5,hX5⟩: ∃X5,X5=nV (min kC.length (eH n).window):=⟨_,rfl⟩;rw[<- hX5]at hW;have j0:w4.cell? ⟨g,0,none⟩=some (pV P.gp):=h4.b.b.cell 0;have jp:=h4.Rj;clear hE h3 sC hO4 L4 z4 XA hX5;go_wp2_with fail
   refine hW.mono ?_;rintro e w5 ⟨rfl,t5,hn5,s5⟩;have h5:=h4.kE _ s5 hn5;have sE:=sD.trans s5 fun y (h:Mk 1000 1000 y)=>(show SM y by omega)
   have i0:w5.cell? ⟨g,0,none⟩=some (pV P.gp):=h5.b.b.cell 0;have ip:=h5.Rj;have zB:=Stp.alloc w5 t5 (fun _=>False) (.cells #[nV c] 3) 9
   have bB:=BT.new' w5 t5 9 w5.heap.size rfl 3 #[nV c];have h6:=h5.keep zB (fun _ _ h=>h) id
   have hn6:((({ s.net.up c eH with queue:=r,op:=s.net.op+1 } :cu).up c fun x=>jK x kC).aG[c]?)=some (jK (eH n) kC):=by
    show((s.net.aG.modify c eH).modify c fun x=>jK x kC)[c]? = _
    rw[List.getElem?_modify_eq,List.getElem?_modify_eq,hn];rfl
   have hCl:=Ri _ _ 1000 P.gn _ c _ h6.net hn6 rfl (by show 1<= s.net.op+1;omega) d7 (some ⟨w5.heap.size,0,none⟩) 1 ⟨w5.heap.size,0,rfl,bB.b.cell 0⟩
   have sF:=sE.trans zB fun _ h=>h.elim
   clear hW h4 sD j0 jp hn4 s5 hn5 sE;go_wp2_with fail
   refine hCl.mono ?_;rintro e w7 ⟨⟨v7,rfl⟩,t7,hn7,s7⟩;have h7:=h6.kE _ s7 hn7;have sG:=sF.trans s7 fun y (h:Mk 1000 1000 y)=>(show SM y by omega)
   have j27:w7.cell? ⟨g,27,none⟩=some (nV s.refused):=h7.b.b.cell 27;have f27:w7.frozen? ⟨g,27,none⟩=false:=h7.b.b.frozen 27;have hwr:IntKind.i64.wrap ((s.refused:Int)+1)=(s.refused:Int)+1:=IntWalk.i64_in _ (by omega)
   obtain⟨h8,z8⟩:=h7.set 27 (.int .i64 ((s.refused:Int)+1)) { s with net:= { ((({ s.net.up c eH with queue:=r,op:=s.net.op+1 } :cu).up c fun x=>jK x kC).up c fun x=> { x with op:=false })with op:=s.net.op+1-1 },gate:=(pI s.cf s.gate n.peer).1,refused:=s.refused+1 } rfl rfl
   clear h5 h6 h7 i0 ip zB bB hn6 hCl sF s7 hn7;go_wp2_with fail
   go_ret
   exact⟨rfl,t7,⟨L,h8⟩,sG.trans z8 fun y (h:y=10)=>(show SM y by omega)⟩
theorem Kz (now:Nat) (h:aZ w t g s P L) (hs:dJ now 16 s=some s'):
 Calls Tryz.prog 49 #[pV g,nV now] w fun e w'=>e= .returned (.tuple #[])/\ ∃t',yC w' t' g s' P/\ Stp SM w t w' t':=by
 go_enter Tryz.func49,Tryz.ntmps49
 go_wp2_with fail
 go_loopw [6] (fun z wr=> ∃(k:Nat) (t1:Nat-> Nat) (s1:SrS),z= .int .i64 (k:Int)/\ k<= 16/\ yC wr t1 g s1 P/\ Hid (dJ now (16-k) s1=some s')/\ Stp SM w t wr t1) (fun z _=>16- (intOf z).toNat)
 case atStart=>exact⟨0,t,s,rfl,Nat.zero_le _,⟨L,h⟩,Lib.hid hs,Stp.refl _ _ _⟩
 case round=>
  obtain⟨k,t1,s1,rfl,hk,⟨L1,h1⟩,H,st1⟩:=hrel;clear h hs;rcases Nat.lt_or_ge k 16 with hlt|hge
  ·have hH:=H.out
   obtain⟨j,hj⟩: ∃j,16-k=j+1:=⟨15-k,by omega⟩
   rw[hj,dJ]at hH;have j0:wr.cell? ⟨g,0,none⟩=some (pV P.gp):=h1.b.b.cell 0;have jp:=h1.Rj;have hN:=Ze wr t1 1000 P.gn s1.net h1.net;rcases Nat.eq_zero_or_pos s1.net.queue.length with hq|hq
   ·rw[if_pos (by simp[hq])]at hH
    obtain rfl:=Option.some.inj hH;rw[hq]at hN;clear H hj;go_wp2_with fail
    refine hN.mono ?_;rintro e w2 ⟨rfl,q,rfl⟩;go_wp2_with fail
    refine bodyPost_ret (results_none rfl _ _ _) rfl ?_;have zq:=(Stp.refl (fun _=>False) wr t1).drewN q
    exact⟨rfl,t1,⟨L1,h1.keep zq (fun _ _ h=>h) id⟩,st1.drewN q⟩
   ·have hq1:((s1.net.queue.length:Int)==0)=false:=beq_false_of_ne (by omega)
    have HQ0:=Lib.hid (show decide (s1.net.queue.length=0)=false from decide_eq_false (by omega))
    clear hq;cases hm:Dl s1.cf s1.gate now
    ·rw[if_pos (by simp[hm])]at hH
     obtain rfl:=Option.some.inj hH;clear H hj;go_wp2_with fail
     refine hN.mono ?_;rintro e w2 ⟨rfl,q,rfl⟩;have zq:=(Stp.refl (fun _=>False) wr t1).drewN q
     have h2:=h1.keep zq (fun _ _ h=>h) id
     have hM:=GX _ _ 40 P.gg s1.cf P.tg s1.gate now h2.gate;rw[hm]at hM;have j18:wr.cell? ⟨g,18,none⟩=some (pV P.gg):=h1.b.b.cell 18;go_wp2_with fail
     refine hM.mono ?_;rintro e w3 ⟨rfl,L3⟩;have z3:=Stp.below L3 (fun _=>False) t1
     go_wp2_with fail
     refine bodyPost_ret (results_none rfl _ _ _) rfl ?_;exact⟨rfl,t1,⟨L1,h2.keep z3 (fun _ _ h=>h) id⟩,(st1.drewN q).trans z3 fun _ h=>h.elim⟩
    ·rw[if_neg (by rw[HQ0.out,hm];simp)]at hH
     obtain⟨hg1,hH⟩:=aI hH;obtain⟨⟨s2,b⟩,hT,hH⟩:=Option.bind_eq_some_iff.1 hH;have hev:s1.cf.dV=false:=by simpa using hg1
     clear hg1;go_wp2_with fail
     refine hN.mono ?_;rintro e w2 ⟨rfl,q,rfl⟩;have zq:=(Stp.refl (fun _=>False) wr t1).drewN q
     have h2:=h1.keep zq (fun _ _ h=>h) id
     have hM:=GX _ _ 40 P.gg s1.cf P.tg s1.gate now h2.gate;rw[hm]at hM;have j18:wr.cell? ⟨g,18,none⟩=some (pV P.gg):=h1.b.b.cell 18;go_wp2_with fail
     refine hM.mono ?_;rintro e w3 ⟨rfl,L3⟩;have z3:=Stp.below L3 (fun _=>False) t1
     have h3:=h2.keep z3 (fun _ _ h=>h) id
     have sA:=(st1.drewN q).trans z3 fun _ h=>h.elim
     have i15:w3.cell? ⟨g,15,none⟩=some (.bool s1.cf.dV):=h3.b.b.cell 15;rw[hev]at i15;have hK:=Sr w3 t1 g s1 s2 P L1 now b h3 hT;clear hM h2 h1 hN j0 jp j18 L3 z3 zq H;cases b
     ·simp only[Bool.false_eq_true,if_false,Option.some.injEq]at hH
      subst hH;go_wp2_with fail
      refine hK.mono ?_;rintro e w4 ⟨rfl,t4,h4,s4⟩;go_wp2_with fail
      refine bodyPost_ret (results_none rfl _ _ _) rfl ?_;exact⟨rfl,t4,h4,sA.trans s4 fun _ h=>h⟩
     ·simp only[if_true]at hH
      have hj2:16- (k+1)=j:=by omega
      have HH:=Lib.hid hH;clear hH hj;go_wp2_with fail
      refine hK.mono ?_;rintro e w4 ⟨rfl,t4,h4,s4⟩;go_wp2_with fail
      go_roundw
      case rel=>exact⟨k+1,t4,s2,by go_num,hlt,h4,Lib.hid (by rw[hj2];exact HH.out),sA.trans s4 fun _ h=>h⟩
      case measure=>simp[intOf];omega
  ·obtain rfl:k=16:=by omega
   have hH:s1=s':=by have:=H.out;simpa [dJ] using this
   subst hH;go_wp2_with fail
   go_end0
   exact⟨rfl,t1,⟨L1,h1⟩,st1⟩
end
end Go.Proofs.YtdmondfpepbniaaGreatDoor
