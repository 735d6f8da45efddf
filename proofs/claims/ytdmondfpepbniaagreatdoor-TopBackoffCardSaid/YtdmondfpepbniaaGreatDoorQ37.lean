/- Part 37 of the proof: VrA VmJ Vx. -/
import Derived.Test.YtdmondfpepbniaaGreatDoorQ23
import Derived.Test.YtdmondfpepbniaaGreatDoorQ26
import Derived.Test.YtdmondfpepbniaaGreatDoorQ33
import Derived.Test.YtdmondfpepbniaaGreatDoorQ34
namespace Go.Proofs.YtdmondfpepbniaaGreatDoor
open Go.RowKit
set_option maxRecDepth 100000
set_option maxHeartbeats 4000000
set_option linter.all false
theorem RD (w:World) (t:Nat-> Nat) (m g:Nat) (b p:Bs) (h:jo w t m g b) (A2:Option Addr) (c2:Nat) (A:Option Addr) (c:Nat) (hp:p.length+b.length<= 256) (hpc:p.length<= c)
 (h2: ∃x o,A2=some ⟨x,o,none⟩/\ w.cell? ⟨x,o,none⟩=some (.slice A p.length c)) (hr:Rd w w.heap.size 1 A p.length (p.map bv)) (ha: ∀a,A=some a-> ¬Mk m 2 (t a.block)):
 Calls Tryz.prog 152 #[.pointer (some ⟨g,0,none⟩),.slice A2 1 c2] w fun e w'=>e= .returned (.int .i64 (p.length:Int))/\ ∃t',jo w' t' m g (b++p)/\ Stp (Mk m 2) w t w' t':=by
 have ZK:=Bl w t m g b h;obtain⟨x2,o2,rfl,hx2⟩:=h2;have hmin:min (p.length:Int) ((256-b.length:Nat):Int)=(p.length:Int):=by omega
 go_enter Tryz.func152,Tryz.ntmps152
 go_wp2_with fail
 go_loopw [5,12] (fun y i wr=>(i= .int .i64 0/\ y= .int .i64 0/\ w=wr)\/ (i= .int .i64 1/\ y= .int .i64 (p.length:Int)/\ ∃t',jo wr t' m g (b++p)/\ Stp (Mk m 2) w t wr t')) (fun _ i _=>1- (intOf i).toNat)
 case atStart=>exact .inl ⟨rfl,rfl,rfl⟩
 case round=>
  rcases hrel with⟨rfl,rfl,rfl⟩| ⟨rfl,rfl,hend⟩
  ·go_wp2_with fail
   refine ZK.mono ?_;rintro e w1 ⟨rfl,L1⟩;have h1: ∃t',jo w1 t' m g (b++p.take 0)/\ Stp (Mk m 2) w t w1 t':=⟨t,by rw[List.take_zero,List.append_nil];exact h.keep (Stp.below L1 (fun _=>False) t) id id,Stp.below L1 _ t⟩
   clear ZK L1;have hbp:(p.length:Int)<=(c:Int):=by omega
   go_wp2_with fail
   go_loopw [25] (fun i wr=> ∃k:Nat,i= .int .i64 k/\ k<= p.length/\ ∃t',jo wr t' m g (b++p.take k)/\ Stp (Mk m 2) w t wr t') (fun i _=>p.length- (intOf i).toNat)
   case atStart=>exact⟨0,rfl,Nat.zero_le _,h1⟩
   case round=>
    obtain⟨k,rfl,hk,t1,hK,hS⟩:=hrel;by_cases hlt:k<p.length
    ·obtain⟨bx,ox,rfl,hbx,hcx⟩:=hr.2 (by omega)
     obtain⟨d,hd⟩: ∃d,p[k]? = some d:=⟨p[k],List.getElem?_eq_getElem hlt⟩;have hx:wr.cell? ⟨bx,ox+k,none⟩=some (bv d):=(hS.fr.cell (p:=⟨bx,ox+k,none⟩) hbx (ha ⟨bx,ox,none⟩ rfl)).trans (hcx k (bv d) (by rw[List.getElem?_map,hd];rfl))
     have HT:=Lib.hid (show b++p.take (k+1)=(b++p.take k)++ [d] by rw[List.take_add_one,hd,List.append_assoc];rfl)
     have hlen:(b++p.take k).length=b.length+k:=by rw[List.length_append,List.length_take];omega
     obtain⟨B,hB⟩: ∃B,b++p.take k=B:=⟨_,rfl⟩;have HT:=Lib.hid (HT.out.trans (by rw[hB]))
     rw[hB]at hK hlen;clear hB hd hcx;obtain⟨v,first,u,hK⟩:=hK;have hAt:=fun w' hb=>MC w' t1 m g v first u B B.length (hK.ah (w':=w') hb) hK.2.2.2.2.1
     obtain⟨hbr,hrr,hu,hf,hl,hc⟩:=hK;have hput:=VP u B first d hu (by omega) hc
     have hq:(first+B.length) % 256<256:=by omega
     generalize (first+B.length) % 256=q at*;obtain⟨gr,off,cp,rfl,hgl,hm,hcell⟩:=hrr.at_ (by decide)
     obtain⟨j0,j1,j2,i0,i1,i2⟩:=hbr.b.c3;have hgg:=hbr.b.lt;have hq2:(q:Int)<256:=by omega
     have e1:gr≠g:=fun e=>by have:=hbr.m;rw[<- e,hm]at this;omega
     have hBl:B.length<256:=by omega
     have HL:=Lib.hid (show(B++ [d]).length=B.length+1 by simp)
     clear hlen;have HPUT:=Lib.hid hput;clear hput hcell hr ha hbx hmin;go_wp2_with fail
     clear hx
     go_region_with (go_at_call 196;refine(hAt _ (Below.refl _ _).drew).mono ?_;rintro e w2 ⟨rfl,L2⟩;have L3:=stepW (Below.refl wr.heap.size wr).drew L2;have hb2:=hbr.ah L3;have hr2:=hrr.ah L3;obtain⟨k0,k1,k2,m0,m1,m2⟩:=hb2.b.c3;obtain⟨z0,z1⟩:=RT.VQ hr2 q hq)
     all_goals
      go_wp2_with fail
      go_roundw
      case rel=>
       obtain⟨hr3,s3⟩:=hr2.stored (S:=fun x=>x=m+1) rfl q (by omega) (bv d)
       have hb3:=hb2.keep s3 (by omega)
       obtain⟨hb4,s4⟩:=hb3.aH 2 (.int .i64 ((B.length:Int)+1));have hr4:=hr3.keep s4 (by omega)
       refine⟨k+1,by go_num,hlt,t1,?_,?_⟩
       ·rw[HT.out]
        exact⟨.slice (some ⟨gr,off,none⟩) 256 cp,first,u.set q d,hb4.to (by rw[HL.out];simp),by rw[List.map_set];exact hr4,by rw[List.length_set];exact hu,hf,by rw[HL.out];omega,HPUT.out⟩
       ·exact((hS.trans (Stp.below L3 (fun _=>False) t1) fun _ h=>h.elim).trans s3 fun x (h:x=m+1)=>(show m<= x/\ x<m+2 by omega)).trans s4 fun x (h:x=m)=>(show m<= x/\ x<m+2 by omega)
      case measure=>simp[intOf];omega
    ·obtain rfl:k=p.length:=by omega
     rw[List.take_length]at hK;go_wp2_with fail
     go_roundw
     case rel=>exact .inr ⟨rfl,rfl,t1,hK,hS⟩
     case measure=>simp[intOf]
  ·go_wp2_with fail
   go_ret
   exact⟨rfl,hend⟩
def J8 (p:Value) (cf:Cf) (tv si:Value) (gg:Nat) (wh ri:Value) (bm:Nat) (h1 h2:Value):Array Value:=
 ([p]++cfC cf tv++ [si,pV gg,wh,ri,.map (some bm),h1,h2,.bool true,.int .i64 0,.int .i64 0,.int .i64 0,.int .i64 0,.int .i64 0,.int .i64 0,.int .i64 0,.int .i64 0,.int .i64 0,.int .i64 0,.int .i64 0,.int .i64 0,.int .i64 0,.int .i64 0,.bool false,.bool false]).toArray
theorem Zq (w:World) (t:Nat-> Nat) (gn τ:Nat) (cf:Cf) (tab:List En) (A:Option Addr) (c:Nat) (hg:GL w t) (hn:fP w t 1000 gn ⟨8,[],[],false,0,0,0⟩) (hc:GY cf) (hT:J3 tab) (hτ:τ=6) (hr:RT w t τ 99 3 (.slice A tab.length c) tab.length (tab.flatMap lK)) (hA:0<tab.length):
 Calls Tryz.prog 36 #[pV gn,.agg (cfC cf (.slice A tab.length c)).toArray,.int .i64 0] w fun e w'=> ∃g,e= .returned (.tuple #[pV g,.int .i64 0])/\ ∃t' P,aZ w' t' g (yS cf tab) P []/\ P.gn=gn/\ Stp SM w t w' t':=by
 subst hτ;obtain⟨tv,htv⟩: ∃v,v=Value.slice A tab.length c:=⟨_,rfl⟩;rw[<- htv];have HTV:=Lib.hid htv;have hmk: ∀w:World,(Instr.makeMap 70 none).run Tryz.prog w= .ok (.map (some w.heap.size)) (w.alloc (.map #[] 0)):=fun _=>rfl
 clear htv;go_enter Tryz.func36,Tryz.ntmps36
 go_upto_region 1 with(fail)
 have z1:=Stp.alloc w t (fun _=>False) (.cells (cfC cf tv).toArray 25) 9
 have b1:=BT.new' w t 9 w.heap.size rfl 25 (cfC cf tv).toArray;obtain⟨W1,hW1⟩: ∃W,W=w.alloc (.cells (cfC cf tv).toArray 25):=⟨_,rfl⟩;obtain⟨t1,ht1⟩: ∃y,y=upT t w 9:=⟨_,rfl⟩;obtain⟨B,hB⟩: ∃y,y=w.heap.size:=⟨_,rfl⟩;rw[<- hW1,<- ht1]at z1 b1;rw[<- hB]at b1⊢;rw[<- hW1];clear hW1 ht1 hB;have k0:W1.cell? ⟨B,0,none⟩=some (nV cf.jE):=b1.b.cell 0;have k1:W1.cell? ⟨B,1,none⟩=some (nV cf.jF):=b1.b.cell 1;have k2:W1.cell? ⟨B,2,none⟩=some (nV cf.pipe):=b1.b.cell 2;have k3:W1.cell? ⟨B,3,none⟩=some (nV cf.jg):=b1.b.cell 3;have k4:W1.cell? ⟨B,4,none⟩=some (nV cf.idle):=b1.b.cell 4;have k5:W1.cell? ⟨B,5,none⟩=some (nV cf.head):=b1.b.cell 5;have k6:W1.cell? ⟨B,6,none⟩=some (nV cf.body):=b1.b.cell 6;have k7:W1.cell? ⟨B,7,none⟩=some (nV cf.write):=b1.b.cell 7;have k8:W1.cell? ⟨B,8,none⟩=some (nV cf.bC):=b1.b.cell 8;have k9:W1.cell? ⟨B,9,none⟩=some (nV cf.jR):=b1.b.cell 9;have k10:W1.cell? ⟨B,10,none⟩=some (nV cf.gJ):=b1.b.cell 10;have k11:W1.cell? ⟨B,11,none⟩=some (nV cf.base):=b1.b.cell 11;have k12:W1.cell? ⟨B,12,none⟩=some (nV cf.cap):=b1.b.cell 12;have k13:W1.cell? ⟨B,13,none⟩=some (.bool cf.refuse):=b1.b.cell 13;have k14:W1.cell? ⟨B,14,none⟩=some (.bool cf.dV):=b1.b.cell 14;have k15:W1.cell? ⟨B,15,none⟩=some (tv):=b1.b.cell 15;have hG:=Om W1 t1 40 cf tv hc;go_wp2_with fail
 refine hG.mono ?_;rintro e w2 ⟨gg,t2,rfl,-,hg2,s2⟩;have b2:=b1.keep s2 id;have sA:=z1.trans s2 fun _ h=>h
 clear k0 k1 k2 k3 k4 k5 k6 k7 k8 k9 k10 k11 k12 k13 k14 k15 hG z1 s2 b1;have n0:w2.cell? ⟨B,0,none⟩=some (nV cf.jE):=b2.b.cell 0;have n1:w2.cell? ⟨B,1,none⟩=some (nV cf.jF):=b2.b.cell 1;have n2:w2.cell? ⟨B,2,none⟩=some (nV cf.pipe):=b2.b.cell 2;have n3:w2.cell? ⟨B,3,none⟩=some (nV cf.jg):=b2.b.cell 3;have n4:w2.cell? ⟨B,4,none⟩=some (nV cf.idle):=b2.b.cell 4;have n5:w2.cell? ⟨B,5,none⟩=some (nV cf.head):=b2.b.cell 5;have n6:w2.cell? ⟨B,6,none⟩=some (nV cf.body):=b2.b.cell 6;have n7:w2.cell? ⟨B,7,none⟩=some (nV cf.write):=b2.b.cell 7;have n8:w2.cell? ⟨B,8,none⟩=some (nV cf.bC):=b2.b.cell 8;have n9:w2.cell? ⟨B,9,none⟩=some (nV cf.jR):=b2.b.cell 9;have n10:w2.cell? ⟨B,10,none⟩=some (nV cf.gJ):=b2.b.cell 10;have n11:w2.cell? ⟨B,11,none⟩=some (nV cf.base):=b2.b.cell 11;have n12:w2.cell? ⟨B,12,none⟩=some (nV cf.cap):=b2.b.cell 12;have n13:w2.cell? ⟨B,13,none⟩=some (.bool cf.refuse):=b2.b.cell 13;have n14:w2.cell? ⟨B,14,none⟩=some (.bool cf.dV):=b2.b.cell 14;have n15:w2.cell? ⟨B,15,none⟩=some (tv):=b2.b.cell 15;go_upto_region 5 with(fail)
 have z3:=Stp.alloc w2 t2 (fun _=>False) (.map #[] 0) 11
 have m3:=MT.new w2 t2 11 nV nOk (fun y:Nat×Nat×ClS=>pV y.1)
 have hsz:w2.heap.size+1=(w2.alloc (.map #[] 0)).heap.size:=by simp
 have z4:=Stp.alloc (w2.alloc (.map #[] 0)) (upT t2 w2 11) (fun _=>False) (.cells (J8 (.pointer none) cf tv (.pointer none) gg (.pointer none) (.pointer none) w2.heap.size (.int .i64 0) (.int .i64 0)) 74) 10
 have b4:=BT.new' (w2.alloc (.map #[] 0)) (upT t2 w2 11) 10 (w2.heap.size+1) hsz 74 (J8 (.pointer none) cf tv (.pointer none) gg (.pointer none) (.pointer none) w2.heap.size (.int .i64 0) (.int .i64 0));have m4:=m3.keep z4 id;have z34:=z3.trans z4 fun _ h=>h
 have c4:=b2.keep z34 id;have hg4:=hg2.keep z34 id id;have sB:=sA.trans z34 fun _ h=>h
 have b4:BT ((w2.alloc (.map #[] 0)).alloc (.cells #[.pointer none,nV cf.jE,nV cf.jF,nV cf.pipe,nV cf.jg,nV cf.idle,nV cf.head,nV cf.body,nV cf.write,nV cf.bC,nV cf.jR,nV cf.gJ,nV cf.base,nV cf.cap,.bool cf.refuse,.bool cf.dV,tv,.pointer none,pV gg,.pointer none,.pointer none,.map (some w2.heap.size),.int .i64 0,.int .i64 0,.bool true,.int .i64 0,.int .i64 0,.int .i64 0,.int .i64 0,.int .i64 0,.int .i64 0,.int .i64 0,.int .i64 0,.int .i64 0,.int .i64 0,.int .i64 0,.int .i64 0,.int .i64 0,.int .i64 0,.bool false,.bool false] 74)) (upT (upT t2 w2 11) (w2.alloc (.map #[] 0)) 10) 10 (w2.heap.size+1) 74 (J8 (.pointer none) cf tv (.pointer none) gg (.pointer none) (.pointer none) w2.heap.size (.int .i64 0) (.int .i64 0)):=b4;obtain⟨W4,hW4⟩: ∃W,W=(w2.alloc (.map #[] 0)).alloc (.cells #[.pointer none,nV cf.jE,nV cf.jF,nV cf.pipe,nV cf.jg,nV cf.idle,nV cf.head,nV cf.body,nV cf.write,nV cf.bC,nV cf.jR,nV cf.gJ,nV cf.base,nV cf.cap,.bool cf.refuse,.bool cf.dV,tv,.pointer none,pV gg,.pointer none,.pointer none,.map (some w2.heap.size),.int .i64 0,.int .i64 0,.bool true,.int .i64 0,.int .i64 0,.int .i64 0,.int .i64 0,.int .i64 0,.int .i64 0,.int .i64 0,.int .i64 0,.int .i64 0,.int .i64 0,.int .i64 0,.int .i64 0,.int .i64 0,.int .i64 0,.bool false,.bool false] 74):=⟨_,rfl⟩;obtain⟨g,hgE⟩: ∃y,y=w2.heap.size+1:=⟨_,rfl⟩;obtain⟨bm,hbm⟩: ∃y,y=w2.heap.size:=⟨_,rfl⟩;obtain⟨t4,ht4⟩: ∃y,y=upT (upT t2 w2 11) (w2.alloc (.map #[] 0)) 10:=⟨_,rfl⟩;have m4:MT ((w2.alloc (.map #[] 0)).alloc (.cells #[.pointer none,nV cf.jE,nV cf.jF,nV cf.pipe,nV cf.jg,nV cf.idle,nV cf.head,nV cf.body,nV cf.write,nV cf.bC,nV cf.jR,nV cf.gJ,nV cf.base,nV cf.cap,.bool cf.refuse,.bool cf.dV,tv,.pointer none,pV gg,.pointer none,.pointer none,.map (some w2.heap.size),.int .i64 0,.int .i64 0,.bool true,.int .i64 0,.int .i64 0,.int .i64 0,.int .i64 0,.int .i64 0,.int .i64 0,.int .i64 0,.int .i64 0,.int .i64 0,.int .i64 0,.int .i64 0,.int .i64 0,.int .i64 0,.int .i64 0,.bool false,.bool false] 74)) (upT (upT t2 w2 11) (w2.alloc (.map #[] 0)) 10) 11 w2.heap.size nV nOk (fun y:Nat×Nat×ClS=>pV y.1) []:=m4
 have c4:BT ((w2.alloc (.map #[] 0)).alloc (.cells #[.pointer none,nV cf.jE,nV cf.jF,nV cf.pipe,nV cf.jg,nV cf.idle,nV cf.head,nV cf.body,nV cf.write,nV cf.bC,nV cf.jR,nV cf.gJ,nV cf.base,nV cf.cap,.bool cf.refuse,.bool cf.dV,tv,.pointer none,pV gg,.pointer none,.pointer none,.map (some w2.heap.size),.int .i64 0,.int .i64 0,.bool true,.int .i64 0,.int .i64 0,.int .i64 0,.int .i64 0,.int .i64 0,.int .i64 0,.int .i64 0,.int .i64 0,.int .i64 0,.int .i64 0,.int .i64 0,.int .i64 0,.int .i64 0,.int .i64 0,.bool false,.bool false] 74)) (upT (upT t2 w2 11) (w2.alloc (.map #[] 0)) 10) 9 B 25 (cfC cf tv).toArray:=c4;have hg4:nS ((w2.alloc (.map #[] 0)).alloc (.cells #[.pointer none,nV cf.jE,nV cf.jF,nV cf.pipe,nV cf.jg,nV cf.idle,nV cf.head,nV cf.body,nV cf.write,nV cf.bC,nV cf.jR,nV cf.gJ,nV cf.base,nV cf.cap,.bool cf.refuse,.bool cf.dV,tv,.pointer none,pV gg,.pointer none,.pointer none,.map (some w2.heap.size),.int .i64 0,.int .i64 0,.bool true,.int .i64 0,.int .i64 0,.int .i64 0,.int .i64 0,.int .i64 0,.int .i64 0,.int .i64 0,.int .i64 0,.int .i64 0,.int .i64 0,.int .i64 0,.int .i64 0,.int .i64 0,.int .i64 0,.bool false,.bool false] 74)) (upT (upT t2 w2 11) (w2.alloc (.map #[] 0)) 10) 40 gg cf tv ⟨[],0,0,0,0,false⟩:=hg4;have sB:Stp (fun _=>False) w t ((w2.alloc (.map #[] 0)).alloc (.cells #[.pointer none,nV cf.jE,nV cf.jF,nV cf.pipe,nV cf.jg,nV cf.idle,nV cf.head,nV cf.body,nV cf.write,nV cf.bC,nV cf.jR,nV cf.gJ,nV cf.base,nV cf.cap,.bool cf.refuse,.bool cf.dV,tv,.pointer none,pV gg,.pointer none,.pointer none,.map (some w2.heap.size),.int .i64 0,.int .i64 0,.bool true,.int .i64 0,.int .i64 0,.int .i64 0,.int .i64 0,.int .i64 0,.int .i64 0,.int .i64 0,.int .i64 0,.int .i64 0,.int .i64 0,.int .i64 0,.int .i64 0,.int .i64 0,.int .i64 0,.bool false,.bool false] 74)) (upT (upT t2 w2 11) (w2.alloc (.map #[] 0)) 10):=sB
 rw[<- hW4,<- ht4]at b4 m4 c4 hg4 sB;rw[<- hgE]at b4⊢;rw[<- hW4];rw[<- hbm]at b4 m4⊢;clear hW4 ht4 hgE hbm z3 m3 hsz z4 z34 b2 hg2 sA n0 n1 n2 n3 n4 n5 n6 n7 n8 n9 n10 n11 n12 n13 n14 n15;have G4:=hg.keep sB id;have N4:=hn.keep sB fun _ _ h=>h
 have R4:=hr.keep sB id;have u15:W4.cell? ⟨B,15,none⟩=some tv:=c4.b.cell 15;have i16:W4.cell? ⟨g,16,none⟩=some tv:=b4.b.cell 16;have f16:W4.frozen? ⟨g,16,none⟩=false:=b4.b.frozen 16;clear hg hn hr;obtain⟨ag,ao,ac,ea,-,-,-⟩:=R4.at_ hA;obtain⟨A7,c7,e7,hnc,-,hrd,-⟩:=R4.form;simp only[Value.slice.injEq,true_and]at ea e7;obtain⟨rfl,rfl⟩:=ea;obtain⟨rfl,rfl⟩:=e7;have h1c: ∀u∈tab.flatMap lK,u.oneCell'=true:=fun u hu=>by
  obtain⟨x,-,hx⟩:=List.mem_flatMap.1 hu;simp[lK]at hx;rcases hx with rfl|rfl|rfl<;>rfl
 have hCl:=EY W4 t4 30 ag ao tab.length c (tab.flatMap lK) hrd h1c (by have:=hT.n;omega)
 rw[<- HTV.out]at hCl;clear R4 hrd h1c hnc;go_wp2_with fail
 refine hCl.mono ?_;rintro e w5 ⟨tv',rfl,t5,hr5,s5⟩;obtain⟨A8,c8,rfl,-,-,-,-⟩:=hr5.form;have b5:=b4.keep s5 id;have m5:=m4.keep s5 id;have c5:=c4.keep s5 id;have hg5:=hg4.keep s5 id id;have G5:=G4.keep s5 id;have N5:=N4.keep s5 fun _ _ h=>h
 have sC:=(sB.trans s5 fun _ h=>h).mono (S':=SM) fun _ h=>h.elim
 have i16:w5.cell? ⟨g,16,none⟩=some tv:=b5.b.cell 16;have f16:w5.frozen? ⟨g,16,none⟩=false:=b5.b.frozen 16;obtain⟨b6,z6⟩:=b5.aH 16 (.slice A8 tab.length c8);have b6:BT (w5.setCell ⟨g,16,none⟩ (.slice A8 tab.length c8)) t5 10 g 74 (J8 (.pointer none) cf (.slice A8 tab.length c8) (.pointer none) gg (.pointer none) (.pointer none) bm (.int .i64 0) (.int .i64 0)):=b6;have m6:=m5.keep z6 (by omega)
 have c6:=c5.keep z6 (by omega)
 have hg6:=hg5.keep z6 (by omega) (by omega)
 have G6:=G5.keep z6 (by omega)
 have N6:=N5.keep z6 fun y hy=>by omega
 have r6:=hr5.keep z6 (by omega)
 have sD:=sC.trans z6 fun y (h:y=10)=>(show SM y by omega)
 obtain⟨W6,hW6⟩: ∃W,W=w5.setCell ⟨g,16,none⟩ (.slice A8 tab.length c8):=⟨_,rfl⟩;rw[<- hW6]at b6 m6 c6 hg6 G6 N6 r6 sD;have HW6:=Lib.hid hW6;clear hW6 b5 m5 c5 hg5 G5 N5 hr5 sC z6 b4 m4 c4 hg4 G4 N4 sB s5 hCl u15;have hSi:=Zo W6 t5 20 30 tab A8 c8 G6 (by omega) (by omega) hT r6 hA
 have i16':W6.cell? ⟨g,16,none⟩=some (.slice A8 tab.length c8):=b6.b.cell 16;go_upto_region 6 with(fail)
 rw[<- HW6.out];clear HW6 i16 f16;go_wp2_with fail
 refine hSi.mono ?_;rintro e w7 ⟨gs,rfl,t7,hs7,s7⟩;have b7:=b6.keep s7 (by omega)
 have m7:=m6.keep s7 (by omega)
 have c7':=c6.keep s7 (by omega)
 have hg7:=hg6.keep s7 (by omega) (by omega)
 have G7:=G6.keep s7 (by omega)
 have N7:=N6.keep s7 fun y hy=>by omega
 have sE:=sD.trans s7 fun y (h:Mk 20 10 y)=>(show SM y by omega)
 have i17:w7.cell? ⟨g,17,none⟩=some (.pointer none):=b7.b.cell 17;have f17:w7.frozen? ⟨g,17,none⟩=false:=b7.b.frozen 17;obtain⟨b8,z8⟩:=b7.aH 17 (pV gs);have b8:BT (w7.setCell ⟨g,17,none⟩ (pV gs)) t7 10 g 74 (J8 (.pointer none) cf (.slice A8 tab.length c8) (pV gs) gg (.pointer none) (.pointer none) bm (.int .i64 0) (.int .i64 0)):=b8;have m8:=m7.keep z8 (by omega)
 have c8':=c7'.keep z8 (by omega)
 have hg8:=hg7.keep z8 (by omega) (by omega)
 have G8:=G7.keep z8 (by omega)
 have N8:=N7.keep z8 fun y hy=>by omega
 have S8:=hs7.keep z8 fun y hy=>by omega
 have sF:=sE.trans z8 fun y (h:y=10)=>(show SM y by omega)
 obtain⟨W8,hW8⟩: ∃W,W=w7.setCell ⟨g,17,none⟩ (pV gs):=⟨_,rfl⟩;rw[<- hW8]at b8 m8 c8' hg8 G8 N8 S8 sF;have HW8:=Lib.hid hW8;clear hW8 b7 m7 c7' hg7 G7 N7 hs7 sE z8 b6 m6 c6 hg6 G6 N6 r6 sD s7 hSi i16';have hWh:=Zk W8 t7 100;go_upto_region 9 with(fail)
 rw[<- HW8.out];clear HW8 i17 f17;go_wp2_with fail
 refine hWh.mono ?_;rintro e w9 ⟨gw,rfl,t9,hw9,s9⟩;have b9:=b8.keep s9 (by omega)
 have m9:=m8.keep s9 (by omega)
 have c9:=c8'.keep s9 (by omega)
 have hg9:=hg8.keep s9 (by omega) (by omega)
 have G9:=G8.keep s9 (by omega)
 have N9:=N8.keep s9 fun y hy=>by omega
 have S9:=S8.keep s9 fun y hy=>by omega
 have sG:=sF.trans s9 fun y (h:Mk 100 340 y)=>(show SM y by omega)
 have i19:w9.cell? ⟨g,19,none⟩=some (.pointer none):=b9.b.cell 19;have f19:w9.frozen? ⟨g,19,none⟩=false:=b9.b.frozen 19;obtain⟨b10,z10⟩:=b9.aH 19 (pV gw);have b10:BT (w9.setCell ⟨g,19,none⟩ (pV gw)) t9 10 g 74 (J8 (.pointer none) cf (.slice A8 tab.length c8) (pV gs) gg (pV gw) (.pointer none) bm (.int .i64 0) (.int .i64 0)):=b10;have m10:=m9.keep z10 (by omega)
 have c10:=c9.keep z10 (by omega)
 have Nw:=hg9.keep z10 (by omega) (by omega)
 have G10:=G9.keep z10 (by omega)
 have N10:=N9.keep z10 fun y hy=>by omega
 have S10:=S9.keep z10 fun y hy=>by omega
 have H10:=hw9.keep z10 fun y hy=>by omega
 have sH:=sG.trans z10 fun y (h:y=10)=>(show SM y by omega)
 obtain⟨W10,hW10⟩: ∃W,W=w9.setCell ⟨g,19,none⟩ (pV gw):=⟨_,rfl⟩;rw[<- hW10]at b10 m10 c10 Nw G10 N10 S10 H10 sH;have HW10:=Lib.hid hW10;clear hW10 b9 m9 c9 hg9 G9 N9 S9 hw9 sG z10 b8 m8 c8' hg8 G8 N8 S8 sF s9 hWh;have hPo:=Zi W10 t9 50 cf.jg hc.a3;have v3:W10.cell? ⟨B,3,none⟩=some (nV cf.jg):=c10.b.cell 3;go_upto_region 12 with(fail)
 rw[<- HW10.out];clear HW10 i19 f19;go_wp2_with fail
 refine hPo.mono ?_;rintro e w11 ⟨gr,t11,rfl,-,hp11,s11⟩;have b11:=b10.keep s11 id;have m11:=m10.keep s11 id;have Ro:=Nw.keep s11 id id;have G11:=G10.keep s11 id;have N11:=N10.keep s11 fun _ _ h=>h
 have S11:=S10.keep s11 fun _ _ h=>h
 have H11:=H10.keep s11 fun _ _ h=>h
 have sI:=sH.trans s11 fun _ h=>h.elim
 have i20:w11.cell? ⟨g,20,none⟩=some (.pointer none):=b11.b.cell 20;have f20:w11.frozen? ⟨g,20,none⟩=false:=b11.b.frozen 20;obtain⟨b12,z12⟩:=b11.aH 20 (pV gr);have b12:BT (w11.setCell ⟨g,20,none⟩ (pV gr)) t11 10 g 74 (J8 (.pointer none) cf (.slice A8 tab.length c8) (pV gs) gg (pV gw) (pV gr) bm (.int .i64 0) (.int .i64 0)):=b12;have m12:=m11.keep z12 (by omega)
 have Rq:=Ro.keep z12 (by omega) (by omega)
 have G12:=G11.keep z12 (by omega)
 have N12:=N11.keep z12 fun y hy=>by omega
 have S12:=S11.keep z12 fun y hy=>by omega
 have H12:=H11.keep z12 fun y hy=>by omega
 have P12:=hp11.keep z12 (by omega) (by omega)
 have sJ:=sI.trans z12 fun y (h:y=10)=>(show SM y by omega)
 obtain⟨W12,hW12⟩: ∃W,W=w11.setCell ⟨g,20,none⟩ (pV gr):=⟨_,rfl⟩;rw[<- hW12]at b12 m12 Rq G12 N12 S12 H12 P12 sJ;have HW12:=Lib.hid hW12;clear hW12 b11 m11 Ro G11 N11 S11 H11 hp11 sI z12 b10 m10 c10 Nw G10 N10 S10 H10 sH s11 hPo v3;have hPl:=Wh W12 t11 60 gn;go_upto_region 15 with(fail)
 rw[<- HW12.out];clear HW12 i20 f20;go_wp2_with fail
 refine hPl.mono ?_;rintro e w13 ⟨gp,rfl,t13,hp13,s13⟩;have b13:=b12.keep s13 (by omega)
 have m13:=m12.keep s13 (by omega)
 have hg13:=Rq.keep s13 (by omega) (by omega)
 have G13:=G12.keep s13 (by omega)
 have N13:=N12.keep s13 fun y hy=>by omega
 have S13:=S12.keep s13 fun y hy=>by omega
 have H13:=H12.keep s13 fun y hy=>by omega
 have P13:=P12.keep s13 (by omega) (by omega)
 have sK:=sJ.trans s13 fun y (h:Mk 60 10 y)=>(show SM y by omega)
 have i0:w13.cell? ⟨g,0,none⟩=some (.pointer none):=b13.b.cell 0;have f0:w13.frozen? ⟨g,0,none⟩=false:=b13.b.frozen 0;obtain⟨b14,z14⟩:=b13.aH 0 (pV gp);have b14:BT (w13.setCell ⟨g,0,none⟩ (pV gp)) t13 10 g 74 (J8 (pV gp) cf (.slice A8 tab.length c8) (pV gs) gg (pV gw) (pV gr) bm (.int .i64 0) (.int .i64 0)):=b14;have m14:=m13.keep z14 (by omega)
 have hg14:=hg13.keep z14 (by omega) (by omega)
 have G14:=G13.keep z14 (by omega)
 have N14:=N13.keep z14 fun y hy=>by omega
 have S14:=S13.keep z14 fun y hy=>by omega
 have H14:=H13.keep z14 fun y hy=>by omega
 have P14:=P13.keep z14 (by omega) (by omega)
 have L14:=hp13.keep z14 fun y hy=>by omega
 have sL:=sK.trans z14 fun y (h:y=10)=>(show SM y by omega)
 obtain⟨W14,hW14⟩: ∃W,W=w13.setCell ⟨g,0,none⟩ (pV gp):=⟨_,rfl⟩;rw[<- hW14]at b14 m14 hg14 G14 N14 S14 H14 P14 L14 sL;have HW14:=Lib.hid hW14;clear hW14 b13 m13 hg13 G13 N13 S13 H13 P13 hp13 sK z14 b12 m12 Rq G12 N12 S12 H12 P12 sJ s13 hPl;have hWt:=CG W14 t13 60 gn gp 1000 ⟨8,[],[],false,0,0,0⟩ ⟨⟨4096,[],0⟩,[]⟩ (-1) true false L14 (.inl rfl) (fun x hx=>by cases hx) (by decide)
 have j0:W14.cell? ⟨g,0,none⟩=some (pV gp):=b14.b.cell 0;go_upto_region 18 with(fail)
 rw[<- HW14.out];clear HW14 i0 f0;go_wp2_with fail
 refine hWt.mono ?_;rintro e w15 ⟨rfl,t15,hp15,s15⟩;have b15:=b14.keep s15 (by omega)
 have m15:=m14.keep s15 (by omega)
 have hg15:=hg14.keep s15 (by omega) (by omega)
 have G15:=G14.keep s15 (by omega)
 have N15:=N14.keep s15 fun y hy=>by omega
 have S15:=S14.keep s15 fun y hy=>by omega
 have H15:=H14.keep s15 fun y hy=>by omega
 have P15:=P14.keep s15 (by omega) (by omega)
 have sM:=sL.trans s15 fun y (h:Mk 60 10 y)=>(show SM y by omega)
 have i22:w15.cell? ⟨g,22,none⟩=some (.int .i64 0):=b15.b.cell 22;have i23:w15.cell? ⟨g,23,none⟩=some (.int .i64 0):=b15.b.cell 23;have f22:w15.frozen? ⟨g,22,none⟩=false:=b15.b.frozen 22;have f23:w15.frozen? ⟨g,23,none⟩=false:=b15.b.frozen 23;go_wp2_with fail
 go_ret2
 obtain⟨b16,z16⟩:=b15.aH 22 (nV (mO ⟨⟨4096,[],0⟩,[]⟩ (-1) true false).2.1);obtain⟨b17,z17⟩:=b16.aH 23 (nV (mO ⟨⟨4096,[],0⟩,[]⟩ (-1) true false).2.2);have zz:=z16.trans z17 fun _ h=>h
 refine⟨g,rfl,t15,⟨gp,gs,gg,gw,gr,gn,bm,.slice A8 tab.length c8,tv⟩,⟨G15.keep zz (by omega),b17.to rfl,S15.keep zz fun y hy=>by omega,hg15.keep zz (by omega) (by omega),H15.keep zz fun y hy=>by omega,P15.keep zz (by omega) (by omega),hp15.keep zz fun y hy=>by omega,N15.keep zz fun y hy=>by omega,m15.keep zz (by omega),rfl,fun y hy=>(by cases hy),hc⟩,rfl,sM.trans zz fun y (h:y=10)=>(show SM y by omega)⟩
structure WldB (w:World) (t:Nat-> Nat) (gw:Nat) (x:WlS) (g:Nat) (P:SrP):Prop where
 b:BT w t 8 gw 43 #[pV g,pV P.gn,nV x.many,nV x.now]
 s:yC w t g x.s P
def gQ (w:World) (t:Nat-> Nat) (gw:Nat) (x:WlS):Prop:= ∃g P,WldB w t gw x g P
abbrev SW (y:Nat):Prop:=y=8\/ (10<= y/\ y<1000000)
theorem yC.keep {S:Nat-> Prop} {w w':World} {t t':Nat-> Nat} {g:Nat} {s:SrS} {P:SrP} (h:yC w t g s P) (st:Stp S w t w' t') (h0: ∀y,SM y-> ¬S y) (hz: ¬S 0):yC w' t' g s P:=by
 obtain⟨L,h⟩:=h;exact⟨L,h.keep st h0 hz⟩
theorem gQ.keep {S:Nat-> Prop} {w w':World} {t t':Nat-> Nat} {gw:Nat} {x:WlS} (h:gQ w t gw x) (st:Stp S w t w' t') (h0: ∀y,SW y-> ¬S y) (hz: ¬S 0):gQ w' t' gw x:=by
 obtain⟨g,P,h⟩:=h;exact⟨g,P,h.b.keep st (h0 _ (.inl rfl)),h.s.keep st (fun y hy=>h0 y (.inr hy)) hz⟩
theorem J9 (w:World) (t:Nat-> Nat) (gw:Nat) (x:WlS) (g:Nat) (P:SrP) (h:WldB w t gw x g P):
 Calls Tryz.prog 10 #[pV gw] w fun e w'=>e= .returned (pV P.gn)/\ w=w':=by
 have j1:w.cell? ⟨gw,1,none⟩=some (pV P.gn):=h.b.b.cell 1;go_enter Tryz.func10,Tryz.ntmps10
 go_wp2_with fail
 go_ret
 exact⟨rfl,rfl⟩
theorem Zr (w:World) (t:Nat-> Nat) (cf:Cf) (tab:List En) (A:Option Addr) (c:Nat) (hg:GL w t) (hc:GY cf) (hT:J3 tab) (hr:RT w t 6 99 3 (.slice A tab.length c) tab.length (tab.flatMap lK)) (hA:0<tab.length):
 Calls Tryz.prog 15 #[.agg (cfC cf (.slice A tab.length c)).toArray,.int .i64 8] w fun e w'=> ∃gw,e= .returned (.tuple #[pV gw,.int .i64 0])/\ ∃t',gQ w' t' gw (Ci cf tab)/\ Stp SW w t w' t':=by
 go_enter Tryz.func15,Tryz.ntmps15
 go_upto_region 1 with(fail)
 have z1:=Stp.alloc w t (fun _=>False) (.cells (cfC cf (.slice A tab.length c)).toArray 25) 9
 have b1:=BT.new' w t 9 w.heap.size rfl 25 (cfC cf (.slice A tab.length c)).toArray;obtain⟨W1,hW1⟩: ∃W,W=w.alloc (.cells (cfC cf (.slice A tab.length c)).toArray 25):=⟨_,rfl⟩;obtain⟨t1,ht1⟩: ∃y,y=upT t w 9:=⟨_,rfl⟩;obtain⟨B,hB⟩: ∃y,y=w.heap.size:=⟨_,rfl⟩;rw[<- hW1,<- ht1]at z1 b1;rw[<- hB]at b1⊢;rw[<- hW1];clear hW1 ht1 hB;have hN:=YZ W1 t1 1000;go_wp2_with fail
 refine hN.mono ?_;rintro e w2 ⟨gn,rfl,t2,-,hn2,s2⟩;have b2:=b1.keep s2 id;have sA:=z1.trans s2 fun _ h=>h
 have hS:=Zq w2 t2 gn 6 cf tab A c (hg.keep sA id) hn2 hc hT rfl (hr.keep sA id) hA;clear b1 z1 hN s2;have k0:w2.cell? ⟨B,0,none⟩=some (nV cf.jE):=b2.b.cell 0;have k1:w2.cell? ⟨B,1,none⟩=some (nV cf.jF):=b2.b.cell 1;have k2:w2.cell? ⟨B,2,none⟩=some (nV cf.pipe):=b2.b.cell 2;have k3:w2.cell? ⟨B,3,none⟩=some (nV cf.jg):=b2.b.cell 3;have k4:w2.cell? ⟨B,4,none⟩=some (nV cf.idle):=b2.b.cell 4;have k5:w2.cell? ⟨B,5,none⟩=some (nV cf.head):=b2.b.cell 5;have k6:w2.cell? ⟨B,6,none⟩=some (nV cf.body):=b2.b.cell 6;have k7:w2.cell? ⟨B,7,none⟩=some (nV cf.write):=b2.b.cell 7;have k8:w2.cell? ⟨B,8,none⟩=some (nV cf.bC):=b2.b.cell 8;have k9:w2.cell? ⟨B,9,none⟩=some (nV cf.jR):=b2.b.cell 9;have k10:w2.cell? ⟨B,10,none⟩=some (nV cf.gJ):=b2.b.cell 10;have k11:w2.cell? ⟨B,11,none⟩=some (nV cf.base):=b2.b.cell 11;have k12:w2.cell? ⟨B,12,none⟩=some (nV cf.cap):=b2.b.cell 12;have k13:w2.cell? ⟨B,13,none⟩=some (.bool cf.refuse):=b2.b.cell 13;have k14:w2.cell? ⟨B,14,none⟩=some (.bool cf.dV):=b2.b.cell 14;have k15:w2.cell? ⟨B,15,none⟩=some (.slice A tab.length c):=b2.b.cell 15;go_wp2_with fail
 refine hS.mono ?_;rintro e w3 ⟨g,rfl,t3,P,hs3,rfl,s3⟩;go_wp2_with fail
 go_ret2
 have z4:=Stp.alloc w3 t3 (fun _=>False) (.cells #[pV g,pV P.gn,.int .i64 0,.int .i64 0] 43) 8
 have b4:=BT.new' w3 t3 8 w3.heap.size rfl 43 #[pV g,pV P.gn,.int .i64 0,.int .i64 0];exact⟨w3.heap.size,rfl,_,⟨g,P,b4,⟨[],hs3.keep z4 (fun _ _ h=>h) id⟩⟩,((sA.mono (S':=SW) fun _ h=>h.elim).trans s3 fun y (h:SM y)=>.inr h).trans z4 fun _ h=>h.elim⟩
end Go.Proofs.YtdmondfpepbniaaGreatDoor
