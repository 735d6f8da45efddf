/- Part 43 of the proof: VmH VxA VxB. -/
import Derived.Test.YtdmondfpepbniaaGreatDoorQ40
import Derived.Test.YtdmondfpepbniaaGreatDoorQ42
namespace Go.Proofs.YtdmondfpepbniaaGreatDoor
open Go.RowKit
set_option maxRecDepth 100000
set_option maxHeartbeats 4000000
set_option linter.all false
theorem ZA {n:cu} {x:WS} (h:wsB n x=true):Xo n x:=by
 simp only[wsB,Bool.or_eq_true,decide_eq_true_eq,Bool.and_eq_true]at h;rcases h with h| ⟨h1,h2⟩
 ·exact .inl h
 ·right
  split at h2
  ·rename_i c hc
   simp only[Bool.and_eq_true,Bool.not_eq_true']at h2;exact⟨x.id.toNat,c,by omega,hc,h2.1,h2.2⟩
  ·exact absurd h2 (by simp)
theorem XB {s:SrS} (h:WT s=true):s.poll.dN.slots.length<= 5000/\ ∀a∈iV s.poll.dN,iH a/\ ∃x,aT s.poll.all a=some x/\ Xo s.net x:=by
 simp only[WT,Bool.and_eq_true,decide_eq_true_eq,List.all_eq_true,hnB]at h;refine⟨h.1,fun a ha=> ?_⟩
 obtain⟨h1,h2⟩:=h.2 a ha;refine⟨h1,?_⟩;split at h2
 ·rename_i x hx
  exact⟨x,hx,ZA h2⟩
 ·exact absurd h2 (by simp)
theorem KC: ∀(l:List Ev) (j:Nat) (v:Ev),l[j]? = some v->(fA l)[j*5]? = some (nV v.h.1)/\ (fA l)[j*5+1]? = some (nV v.h.2)/\ (fA l)[j*5+2]? = some (.int .i64 v.id)/\ (fA l)[j*5+3]? = some (.bool v.rd)/\ (fA l)[j*5+4]? = some (.bool v.wr)
 | [],j,v,h=>by simp at h
 |y::l,0,v,h=>by
  obtain rfl:y=v:=by simpa using h
  exact⟨rfl,rfl,rfl,rfl,rfl⟩
 |y::l,j+1,v,h=>by
  have:=KC l j v (by simpa using h)
  have e: ∀m,(fA (y::l))[(j+1)*5+m]? =(fA l)[j*5+m]? := fun m=>by
   rw[show(j+1)*5+m=(j*5+m)+1+1+1+1+1 by omega]
   show(nV y.h.1::nV y.h.2::Value.int .i64 y.id::Value.bool y.rd::Value.bool y.wr::fA l)[(j*5+m)+1+1+1+1+1]? = _;simp only[List.getElem?_cons_succ]
  have e0:=e 0;simp only[Nat.add_zero]at e0;rw[e0,e,e,e,e];exact this
theorem z_cli (w:World):(zeroValue 75).run Tryz.prog w= .ok (.pointer none) w:=by
 kernel_rfl
section
variable (w:World) (t:Nat-> Nat) (g:Nat) (s:SrS) (P:SrP) (L:CL)
theorem KD (now:Nat) (r:SrS×Nat) (h:aZ w t g s P L) (hs:kD s now=some r):
 Calls Tryz.prog 22 #[pV g,nV now,.slice none 0 0] w fun e w'=>e= .returned (nV r.2)/\ ∃t',yC w' t' g r.1 P/\ Stp SM w t w' t':=by
 rw[kD]at hs;have j40:w.cell? ⟨g,40,none⟩=some (.bool s.stopped):=h.b.b.cell 40;go_enter Tryz.func22,Tryz.ntmps22
 cases hst:s.stopped
 rotate_left
 ·rw[hst,if_pos rfl]at hs
  obtain rfl:=Option.some.inj hs;rw[hst]at j40;go_wp2_with fail
  go_ret
  exact⟨rfl,t,⟨L,h⟩,Stp.refl _ _ _⟩
 ·rw[hst,if_neg (by simp)]at hs
  rw[hst]at j40;obtain⟨s1,hf,hs⟩:=Option.bind_eq_some_iff.1 hs;have hT:=Xk w t g s P L now h;obtain⟨T,hT0⟩: ∃T,T=uT s now:=⟨_,rfl⟩;simp only at hs;rw[<- hT0]at hs hf hT;have HS:=Lib.hid hs;clear hs hT0;go_wp2_with fail
  refine hT.mono ?_;rintro e w1 ⟨rfl,q,rfl⟩;have zq:=(Stp.refl (fun _=>False) w t).drewN q
  have hF:=RZ (w.drewN q) t g s s1 P L T (h.keep zq (fun _ _ h=>h) id) hf
  clear hT h hf j40;go_wp2_with fail
  refine hF.mono ?_;rintro e w2 ⟨rfl,t2,h2,s2⟩;have sA:=(zq.mono (S':=SM) fun _ h=>h.elim).trans s2 fun _ h=>h
  clear hF zq s2;have hs:=HS.out;have j39:w2.cell? ⟨g,39,none⟩=some (.bool s1.eF):=h2.b.b.cell 39;have j25:w2.cell? ⟨g,25,none⟩=some (nV s1.fin):=h2.b.b.cell 25;have hdr:(s1.eF&&decide (s1.fin<= T))=false:=by
   cases hd:s1.eF&&decide (s1.fin<= T)
   ·rfl
   ·rw[hd,if_pos rfl]at hs
    exact absurd (aI hs).1 (by simp[uw])
  rw[hdr,if_neg (by simp)]at hs
  obtain⟨may,hmay⟩: ∃m,m=(Dl s1.cf s1.gate T&& (kP s1|| (s1.cf.refuse||s1.cf.dV))):=⟨_,rfl⟩;rw[<- hmay]at hs;have HM:=Lib.hid hmay;have HS:=Lib.hid hs;have HDR:=Lib.hid hdr;clear hmay hs hdr;go_upto_region 5 with(fail)
  go_cut [41] (fun v wx=>v= .bool false/\ wx=w2)
  case first=>
   have hdr:=HDR.out;cases hd:s1.eF
   ·rw[hd]at j39
    clear hdr;go_wp2_with fail
    go_meet
    case rel=>exact⟨rfl,rfl⟩
   ·rw[hd]at j39
    rw[hd,Bool.true_and]at hdr;have hlt:=of_decide_eq_false hdr;have hlt2: ¬(s1.fin:Int)<=(T:Int):=by omega
    clear hdr;go_wp2_with fail
    go_meet
    case rel=>exact⟨rfl,rfl⟩
  case rest=>
   obtain⟨rfl,rfl⟩:=hcut;clear j39 j25 HDR;go_upto_region 15 with(fail)
   go_cut [9] (fun v wx=>v= .bool may/\ ∃t3,aZ wx t3 g s1 P L/\ Stp SM w t wx t3)
   case first=>
    have j18:wc.cell? ⟨g,18,none⟩=some (pV P.gg):=h2.b.b.cell 18;have hMy:=GX wc t2 40 P.gg s1.cf P.tg s1.gate T h2.gate;have hm:=HM.out;clear HS HM;cases hgm:Dl s1.cf s1.gate T
    ·rw[hgm]at hMy hm
     rw[Bool.false_and]at hm;subst hm;go_wp2_with fail
     refine hMy.mono ?_;rintro e w3 ⟨rfl,L3⟩;have z3:=Stp.below L3 (fun _=>False) t2
     go_wp2_with fail
     go_meet
     case rel=>exact⟨rfl,t2,h2.keep z3 (fun _ _ h=>h) id,sA.trans z3 fun _ h=>h.elim⟩
    ·rw[hgm]at hMy hm
     rw[Bool.true_and]at hm;go_wp2_with fail
     refine hMy.mono ?_;rintro e w3 ⟨rfl,L3⟩;have z3:=Stp.below L3 (fun _=>False) t2
     have h3:=h2.keep z3 (fun _ _ h=>h) id
     have sB:=sA.trans z3 fun _ h=>h.elim
     have hHR:=J4 w3 t2 g s1 P L h3;clear h2 sA z3 hMy L3 j18;cases hrr:kP s1
     ·rw[hrr]at hHR hm
      rw[Bool.false_or]at hm;go_wp2_with fail
      refine hHR.mono ?_;rintro e w4 ⟨rfl,q4,rfl⟩;have h4:=h3.keep ((Stp.refl (fun _=>False) w3 t2).drewN q4) (fun _ _ h=>h) id
      have sC:=sB.drewN q4;have j14:w3.cell? ⟨g,14,none⟩=some (.bool s1.cf.refuse):=h3.b.b.cell 14;have j15:w3.cell? ⟨g,15,none⟩=some (.bool s1.cf.dV):=h3.b.b.cell 15;cases hrf:s1.cf.refuse
      ·rw[hrf]at j14 hm
       rw[Bool.false_or]at hm;subst hm;go_wp2_with fail
       go_meet
       case rel=>exact⟨rfl,t2,h4,sC⟩
      ·rw[hrf]at j14 hm
       rw[Bool.true_or]at hm;subst hm;go_wp2_with fail
       go_meet
       case rel=>exact⟨rfl,t2,h4,sC⟩
     ·rw[hrr]at hHR hm
      rw[Bool.true_or]at hm;subst hm;go_wp2_with fail
      refine hHR.mono ?_;rintro e w4 ⟨rfl,q4,rfl⟩;have h4:=h3.keep ((Stp.refl (fun _=>False) w3 t2).drewN q4) (fun _ _ h=>h) id
      have sC:=sB.drewN q4;go_wp2_with fail
      go_meet
      case rel=>exact⟨rfl,t2,h4,sC⟩
   case rest=>
    clear h2 sA;obtain⟨rfl,t3,h3,sB⟩:=hcut;have hs:=HS.out;clear HS HM;obtain⟨s2,hs2⟩: ∃s2,s2=if may=s1.reading then s1 else { s1 with reading:=may,poll:=iZ s1.poll s1.handle may false } :=⟨_,rfl⟩
    rw[<- hs2]at hs;obtain⟨hg1,hs⟩:=aI hs;simp only[Bool.and_eq_true,Option.isSome_iff_exists,decide_eq_true_eq,hnB]at hg1;obtain⟨⟨y,hy⟩,⟨k1,k2⟩,hask,hT6⟩:=hg1;have HS:=Lib.hid hs;have HY:=Lib.hid hy;have HA:=Lib.hid hask;have H2:=Lib.hid hs2;clear hs hy hask hs2;have j24:wc.cell? ⟨g,24,none⟩=some (.bool s1.reading):=h3.b.b.cell 24;obtain⟨rd0,hrd⟩: ∃b,b=s1.reading:=⟨_,rfl⟩;rw[<- hrd]at j24;have HRD:=Lib.hid hrd;clear hrd
    go_upto_if 112 with(fail)
    go_cut [] (fun wx=> ∃t4,aZ wx t4 g s2 P L/\ Stp SM w t wx t4)
    case first=>
     clear HS HA;cases may<;>cases rd0
     ·have H2e:=(H2.out).trans (if_pos (by rw[<- HRD.out]))
      have H2H:=Lib.hid H2e;clear H2e;go_wp2_with fail
      go_meet
      case rel=>exact⟨t3,by rw[H2H.out];exact h3,sB⟩
     ·
      have H2e:=(H2.out).trans (if_neg (by rw[<- HRD.out];simp))
      have f24:wc.frozen? ⟨g,24,none⟩=false:=h3.b.b.frozen 24;obtain⟨h4,z4⟩:=h3.set 24 (.bool false) { s1 with reading:=false } rfl rfl;have sC:=sB.trans z4 fun y (h:y=10)=>(show SM y by omega)
      obtain⟨V,hV⟩: ∃V,V=wc.setCell ⟨g,24,none⟩ (.bool false):=⟨_,rfl⟩;rw[<- hV]at h4 sC;have HV:=Lib.hid hV;clear hV h3 sB z4;have hI: ∀W tW s3,aZ W tW g s3 P L-> s3.handle=s1.handle-> W.cell? ⟨g,0,none⟩=some (pV P.gp)/\ W.cell? ⟨g,22,none⟩=some (nV s1.handle.1)/\ W.cell? ⟨g,23,none⟩=some (nV s1.handle.2):=fun W tW s3 hh e=>⟨hh.b.b.cell 0,by rw[<- e];exact hh.b.b.cell 22,by rw[<- e];exact hh.b.b.cell 23⟩
      have zd:=(Stp.refl (fun _=>False) V t3).drew
      have hd:=h4.keep zd (fun _ _ h=>h) id
      have S0:=hI _ _ _ h4 rfl;have Sd:=hI _ _ _ hd rfl;have hCh:=lX V.drew t3 60 P.gn P.gp s1.poll s1.handle false false y hd.poll ⟨k1,k2⟩ HY.out;have H2H:=Lib.hid H2e;clear H2e;go_upto_region 18 with(fail)
      rw[<- HV.out];clear HV f24 j24;go_region_held3 (fun W=>W.cell? ⟨g,0,none⟩=some (pV P.gp)/\ W.cell? ⟨g,22,none⟩=some (nV s1.handle.1)/\ W.cell? ⟨g,23,none⟩=some (nV s1.handle.2))
       (first|exact S0|exact Sd|exact X6|go_keep)
       (first
         | (go_at_call 47
            refine hCh.mono ?_;rintro e w6 ⟨rfl,t6,hp6,s6⟩;have h6:=hd.wU _ s6 hp6
            have X6:=hI _ _ _ h6 rfl))
      go_wp2_with fail
      go_meet
      case rel=>exact⟨t6,by rw[H2H.out];exact h6,(sC.trans zd fun _ h=>h.elim).trans s6 fun y (h:Mk 60 10 y)=>(show SM y by omega)⟩
     ·
      have H2e:=(H2.out).trans (if_neg (by rw[<- HRD.out];simp))
      have f24:wc.frozen? ⟨g,24,none⟩=false:=h3.b.b.frozen 24;obtain⟨h4,z4⟩:=h3.set 24 (.bool true) { s1 with reading:=true } rfl rfl;have sC:=sB.trans z4 fun y (h:y=10)=>(show SM y by omega)
      obtain⟨V,hV⟩: ∃V,V=wc.setCell ⟨g,24,none⟩ (.bool true):=⟨_,rfl⟩;rw[<- hV]at h4 sC;have HV:=Lib.hid hV;clear hV h3 sB z4;have hI: ∀W tW s3,aZ W tW g s3 P L-> s3.handle=s1.handle-> W.cell? ⟨g,0,none⟩=some (pV P.gp)/\ W.cell? ⟨g,22,none⟩=some (nV s1.handle.1)/\ W.cell? ⟨g,23,none⟩=some (nV s1.handle.2):=fun W tW s3 hh e=>⟨hh.b.b.cell 0,by rw[<- e];exact hh.b.b.cell 22,by rw[<- e];exact hh.b.b.cell 23⟩
      have zd:=(Stp.refl (fun _=>False) V t3).drew
      have hd:=h4.keep zd (fun _ _ h=>h) id
      have S0:=hI _ _ _ h4 rfl;have Sd:=hI _ _ _ hd rfl;have hCh:=lX V.drew t3 60 P.gn P.gp s1.poll s1.handle true false y hd.poll ⟨k1,k2⟩ HY.out;have H2H:=Lib.hid H2e;clear H2e;go_upto_region 18 with(fail)
      rw[<- HV.out];clear HV f24 j24;go_region_held3 (fun W=>W.cell? ⟨g,0,none⟩=some (pV P.gp)/\ W.cell? ⟨g,22,none⟩=some (nV s1.handle.1)/\ W.cell? ⟨g,23,none⟩=some (nV s1.handle.2))
       (first|exact S0|exact Sd|exact X6|go_keep)
       (first
         | (go_at_call 47
            refine hCh.mono ?_;rintro e w6 ⟨rfl,t6,hp6,s6⟩;have h6:=hd.wU _ s6 hp6
            have X6:=hI _ _ _ h6 rfl))
      go_wp2_with fail
      go_meet
      case rel=>exact⟨t6,by rw[H2H.out];exact h6,(sC.trans zd fun _ h=>h.elim).trans s6 fun y (h:Mk 60 10 y)=>(show SM y by omega)⟩
     ·have H2e:=(H2.out).trans (if_pos (by rw[<- HRD.out]))
      have H2H:=Lib.hid H2e;clear H2e;go_wp2_with fail
      go_meet
      case rel=>exact⟨t3,by rw[H2H.out];exact h3,sB⟩
    case rest=>
     clear h3 sB j24 HRD HY H2;obtain⟨t4,h4,sC⟩:=hcut;obtain⟨s3,hs3,hr⟩:=Option.map_eq_some_iff.1 HS.out;clear HS;subst hr;obtain⟨a1,a2⟩:=XB HA.out;obtain⟨l,hl⟩: ∃l,l=Ja s2.net s2.poll:=⟨_,rfl⟩;have hWt:=RI wc t4 60 1000 P.gn P.gp s2.poll s2.net h4.poll h4.net (by omega) (by omega) a1 a2
     rw[<- hl]at hWt hs3;have HL:=Lib.hid hl;have HS3:=Lib.hid hs3;clear hl a1 a2 HA hs3;have j0:wc.cell? ⟨g,0,none⟩=some (pV P.gp):=h4.b.b.cell 0;go_wp2_with fail
     refine hWt.mono ?_;rintro e w5 ⟨v,rfl,τ,t5,hτ,hr5,s5⟩;obtain⟨A5,c5,rfl,hnc,hcm,-,-⟩:=hr5.form;have hlen:l.length<= 9223372036854775807:=Nat.le_trans hnc (Nat.le_trans hcm (by decide))
     clear hnc hcm;have h5:=h4.keep s5 (fun _ _ h=>h) id
     have sD:=sC.trans s5 fun _ h=>h.elim
     clear hWt j0 h4 s5 sC;go_wp2_with fail
     go_loopw [135] (fun z wr=> ∃(j:Nat) (tr:Nat-> Nat) (sr:SrS),z= .int .i64 (j:Int)/\ j<= l.length/\ yC wr tr g sr P/\ Hid (JK T (l.drop j) sr=some s3)/\ RT wr tr τ 119 5 (.slice A5 l.length c5) l.length (fA l)/\ Stp SM w t wr tr) (fun z _=>l.length- (intOf z).toNat)
     case atStart=>exact⟨0,t5,s2,rfl,Nat.zero_le _,⟨L,h5⟩,HS3,hr5,sD⟩
     case round=>
      clear h5 HS3 hr5 sD;obtain⟨j,tr,sr,rfl,hj,⟨Lr,hr⟩,H,hrr,sR⟩:=hrel;rcases Nat.lt_or_ge j l.length with hlt|hge
      ·obtain⟨v,hv⟩: ∃v,l[j]? = some v:=⟨_,List.getElem?_eq_getElem hlt⟩
       have hH:=H.out;rw[List.drop_eq_getElem_cons hlt,show l[j]=v from by rw[List.getElem?_eq_getElem hlt]at hv;exact Option.some.inj hv,JK]at hH
       obtain⟨g',o',cap',e1,hgl,-,hca⟩:=hrr.at_ (by omega)
       simp only[Value.slice.injEq,true_and]at e1;obtain⟨rfl,rfl⟩:=e1;obtain⟨q0,q1,q2,q3,q4⟩:=KC l j v hv;have y0:wr.cell? ⟨g',o'+j*5,none⟩=some (nV v.h.1):=(hca (j*5) (by omega)).1.trans q0
       have y1:wr.cell? ⟨g',o'+j*5+1,none⟩=some (nV v.h.2):=by rw[Nat.add_assoc];exact(hca (j*5+1) (by omega)).1.trans q1
       have y2:wr.cell? ⟨g',o'+j*5+2,none⟩=some (.int .i64 v.id):=by rw[Nat.add_assoc];exact(hca (j*5+2) (by omega)).1.trans q2
       have y3:wr.cell? ⟨g',o'+j*5+3,none⟩=some (.bool v.rd):=by rw[Nat.add_assoc];exact(hca (j*5+3) (by omega)).1.trans q3
       have y4:wr.cell? ⟨g',o'+j*5+4,none⟩=some (.bool v.wr):=by rw[Nat.add_assoc];exact(hca (j*5+4) (by omega)).1.trans q4
       clear H q0 q1 q2 q3 q4 hca hv;obtain⟨⟨v0,v1⟩,vid,vrd,vwr⟩:=v;simp only at hH y0 y1 y2 y3 y4;have zE:=Stp.alloc wr tr (fun _=>False) (.cells #[nV v0,nV v1,.int .i64 vid,.bool vrd,.bool vwr] 119) 9
       have bE:=BT.new' wr tr 9 wr.heap.size rfl 119 #[nV v0,nV v1,.int .i64 vid,.bool vrd,.bool vwr];have h6:=hr.keep zE (fun _ _ h=>h) id
       have r6:=hrr.keep zE id;have sE:=sR.trans zE fun _ h=>h.elim
       go_upto_region 23 with(fail)
       obtain⟨V,hV⟩: ∃V,V=wr.alloc (.cells #[nV v0,nV v1,.int .i64 vid,.bool vrd,.bool vwr] 119):=⟨_,rfl⟩;obtain⟨tE,htE⟩: ∃y,y=upT tr wr 9:=⟨_,rfl⟩;rw[<- hV,<- htE]at zE bE h6 r6 sE;rw[<- hV];clear hV htE y0 y1 y2 y3 y4 hr hrr sR zE hgl;have x2:V.cell? ⟨wr.heap.size,2,none⟩=some (.int .i64 vid):=bE.b.cell 2;have x3:V.cell? ⟨wr.heap.size,3,none⟩=some (.bool vrd):=bE.b.cell 3;by_cases hid:vid= -1
       ·rw[if_pos hid]at hH
        obtain⟨s5,hl5,hH⟩:=Option.bind_eq_some_iff.1 hH;have hLi:=Kz V tE g sr s5 P Lr T h6 hl5;have HH:=Lib.hid hH;clear hH hl5;subst hid;go_wp2_with fail
        refine hLi.mono ?_;rintro e w7 ⟨rfl,t7,h7,s7⟩;have r7:=r6.keep s7 (by omega)
        go_wp2_with fail
        go_roundw
        case rel=>exact⟨j+1,t7,s5,by go_num,hlt,h7,HH,r7,sE.trans s7 fun _ h=>h⟩
        case measure=>simp[intOf];omega
       ·rw[if_neg hid]at hH
        obtain⟨z,hz,hH2⟩:=Option.bind_eq_some_iff.1 hH;clear hH;obtain⟨hg5,hz⟩:=aI hz;simp only[Bool.and_eq_true,decide_eq_true_eq]at hg5;obtain⟨k,rfl⟩: ∃k:Nat,vid=(k:Int):=⟨vid.toNat,by omega⟩
        simp only[Int.toNat_natCast]at hz;have hk0:((k:Int)== -1)=false:=beq_false_of_ne hid;have hkO:nOk k:=by show k<= _;omega
        have hlk:=fun n=>(h6.keep ((Stp.refl (fun _=>False) V tE).drewN n) (fun _ _ h=>h) id).all.look BH Tryz.underlying70 (z_cli (V.drewN n)) k hkO false
        have j21:V.cell? ⟨g,21,none⟩=some (.map (some P.bm)):=h6.b.b.cell 21;have HH:=Lib.hid hH2;clear hH2 hid;rcases hgx:aT Lr k with _| ⟨gl,gc,x⟩
        ·rw[hgx]at hlk
         have hcl:sr.cl k=none:=by rw[SrS.cl,<- h6.l,nT (fun y:Nat×Nat×ClS=>y.2.2),hgx];rfl
         rw[hcl,if_neg (by simp)]at hz
         obtain rfl:=Option.some.inj hz;have hlk: ∀n,(Instr.lookup 70 (.map (some P.bm)) (nV k) false).run Tryz.prog (V.drewN n)= .ok (.pointer none) (V.drewN n):=hlk;have hlk0:=hlk 0;have Sv:=hlk 1;have hlk0:(Instr.lookup 70 (.map (some P.bm)) (nV k) false).run Tryz.prog V= .ok (.pointer none) V:=hlk0;have Sv:(Instr.lookup 70 (.map (some P.bm)) (nV k) false).run Tryz.prog V.drew= .ok (.pointer none) V.drew:=Sv;clear hgx hcl hz;go_upto_region 25 with(fail)
         go_quiet (fail)
         have zq:=(Stp.refl (fun _=>False) V tE).drewN nq
         go_wp2_with fail
         go_roundw
         case rel=>exact⟨j+1,tE,sr,by go_num,hlt,⟨Lr,h6.keep zq (fun _ _ h=>h) id⟩,HH,r6.keep zq id,sE.drewN nq⟩
         case measure=>simp[intOf];omega
        ·rw[hgx]at hlk
         have hcl:=h6.cl hgx;rw[hcl,if_pos (by simp)]at hz
         have hlk: ∀n,(Instr.lookup 70 (.map (some P.bm)) (nV k) false).run Tryz.prog (V.drewN n)= .ok (pV gl) (V.drewN n):=hlk;have hlk0:=hlk 0;have Sv:=hlk 1;have hlk0:(Instr.lookup 70 (.map (some P.bm)) (nV k) false).run Tryz.prog V= .ok (pV gl) V:=hlk0;have Sv:(Instr.lookup 70 (.map (some P.bm)) (nV k) false).run Tryz.prog V.drew= .ok (pV gl) V.drew:=Sv;have HGX:=Lib.hid hgx;clear hgx hcl;go_upto_region 25 with(fail)
         go_quiet (fail)
         have zq:=(Stp.refl (fun _=>False) V tE).drewN nq
         have h7:=h6.keep zq (fun _ _ h=>h) id
         have hHe:=RY (V.drewN nq) tE g sr z P Lr k gl gc x vrd T h7 HGX.out hz;clear h6 hlk hlk0 Sv j21 hz;go_wp2_with fail
         refine hHe.mono ?_;rintro e w8 ⟨rfl,t8,h8,s8⟩;have r8:=(r6.keep zq id).keep s8 (by omega)
         go_wp2_with fail
         go_roundw
         case rel=>exact⟨j+1,t8,z,by go_num,hlt,h8,HH,r8,(sE.drewN nq).trans s8 fun _ h=>h⟩
         case measure=>simp[intOf];omega
      ·obtain rfl:j=l.length:=by omega
       have hH:=H.out;rw[List.drop_length,JK]at hH;obtain rfl:=Option.some.inj hH;clear hH H;go_wp2_with fail
       go_ret
       exact⟨by rw[<- HL.out];rfl,tr,⟨Lr,hr⟩,sR⟩
end
section
variable (w:World) (t:Nat-> Nat) (gw:Nat) (x x':WlS)
theorem CW (n:Nat) (h:gQ w t gw x) (hs:sZ x n=some x'):
 Calls Tryz.prog 7 #[pV gw,.agg #[.int .i64 1,.int .i64 0,nV n,.slice none 0 0,.slice none 0 0]] w fun e w'=>(∃v,e= .returned v)/\ ∃t',gQ w' t' gw x'/\ Stp SW w t w' t':=by
 obtain⟨hg,hs⟩:=aI hs;simp only[Bool.and_eq_true,decide_eq_true_eq,Bool.not_eq_true']at hg;obtain⟨g1,g2,g3,g4,g5,g6,g7⟩:=hg;obtain rfl:=Option.some.inj hs;go_enter Tryz.func7,Tryz.ntmps7
 go_upto_region 1 with(fail)
 have z1:=Stp.alloc w t (fun _=>False) (.cells #[.int .i64 1,.int .i64 0,nV n,.slice none 0 0,.slice none 0 0] 36) 9
 have b1:=BT.new' w t 9 w.heap.size rfl 36 #[.int .i64 1,.int .i64 0,nV n,.slice none 0 0,.slice none 0 0];obtain⟨W1,hW1⟩: ∃W,W=w.alloc (.cells #[.int .i64 1,.int .i64 0,nV n,.slice none 0 0,.slice none 0 0] 36):=⟨_,rfl⟩;obtain⟨t1,ht1⟩: ∃y,y=upT t w 9:=⟨_,rfl⟩;obtain⟨B,hB⟩: ∃y,y=w.heap.size:=⟨_,rfl⟩;rw[<- hW1,<- ht1]at z1 b1;rw[<- hB]at b1⊢;rw[<- hW1];clear hW1 ht1 hB;obtain⟨g,P,h1⟩:=h.keep z1 (fun _ _ h=>h) id
 clear h;have sK:W1.cell? ⟨B,0,none⟩=some (.int .i64 1):=b1.b.cell 0;have sN:W1.cell? ⟨B,2,none⟩=some (nV n):=b1.b.cell 2;have j1:W1.cell? ⟨gw,1,none⟩=some (pV P.gn):=h1.b.b.cell 1;obtain⟨L,hL⟩:=h1.s;have zd:=(Stp.refl (fun _=>False) W1 t1).drew
 have hLd:=hL.keep zd (fun _ _ h=>h) id
 have hC:=Kt W1.drew t1 1000 P.gn x.s.net n hLd.net g1 g6 g2 g4 g3 g5;have S0:W1.cell? ⟨B,2,none⟩=some (nV n)/\ W1.cell? ⟨gw,1,none⟩=some (pV P.gn):=⟨sN,j1⟩;have Sd:W1.drew.cell? ⟨B,2,none⟩=some (nV n)/\ W1.drew.cell? ⟨gw,1,none⟩=some (pV P.gn):=⟨sN,j1⟩;have hbd:=b1.keep zd id;have hwd:=h1.b.keep zd id;go_upto_region 5 with(fail)
 go_region_held3 (fun W=>W.cell? ⟨B,2,none⟩=some (nV n)/\ W.cell? ⟨gw,1,none⟩=some (pV P.gn))
  (first|exact S0|exact Sd|exact Xf3|go_keep)
  (first
    | (go_at_call 16
       refine hC.mono ?_;rintro e w3 ⟨rfl,t3,hn3,s3⟩
       have Xf3:w3.cell? ⟨B,2,none⟩=some (nV n)/\ w3.cell? ⟨gw,1,none⟩=some (pV P.gn):=⟨(hbd.keep s3 (by omega)).b.cell 2,(hwd.keep s3 (by omega)).b.cell 1⟩))
 have h3:=hLd.kE _ s3 hn3;have w3b:=hwd.keep s3 (by omega)
 have sA:=((z1.trans zd fun _ h=>h).mono (S':=SW) fun _ h=>h.elim).trans s3 fun y (h:Mk 1000 1000 y)=>(show SW y by omega)
 have j2:w3.cell? ⟨gw,2,none⟩=some (nV x.many):=w3b.b.cell 2;have f2:w3.frozen? ⟨gw,2,none⟩=false:=w3b.b.frozen 2;obtain⟨b4,z4⟩:=w3b.aH 2 (.int .i64 ((x.many:Int)+1));have b4:BT (w3.setCell ⟨gw,2,none⟩ (.int .i64 ((x.many:Int)+1))) t3 8 gw 43 #[pV g,pV P.gn,nV (x.many+1),nV x.now]:=b4;have h4:=h3.keep z4 (fun y hy (h:y=8)=>by omega) (by omega)
 clear Xf3 S0 Sd hC hbd hwd hLd zd sK sN j1 hL h1 w3b h3;go_wp2_with fail
 go_ret2
 exact⟨⟨_,rfl⟩,t3,⟨g,P,b4,⟨L,h4⟩⟩,sA.trans z4 fun y h=>.inl h⟩
theorem Sz (n:Nat) (h:gQ w t gw x):
 Calls Tryz.prog 7 #[pV gw,.agg #[.int .i64 6,.int .i64 0,nV n,.slice none 0 0,.slice none 0 0]] w fun e w'=>(∃v,e= .returned v)/\ ∃t',gQ w' t' gw (JL x n)/\ Stp SW w t w' t':=by
 go_enter Tryz.func7,Tryz.ntmps7
 go_upto_region 1 with(fail)
 have z1:=Stp.alloc w t (fun _=>False) (.cells #[.int .i64 6,.int .i64 0,nV n,.slice none 0 0,.slice none 0 0] 36) 9
 have b1:=BT.new' w t 9 w.heap.size rfl 36 #[.int .i64 6,.int .i64 0,nV n,.slice none 0 0,.slice none 0 0];obtain⟨W1,hW1⟩: ∃W,W=w.alloc (.cells #[.int .i64 6,.int .i64 0,nV n,.slice none 0 0,.slice none 0 0] 36):=⟨_,rfl⟩;obtain⟨t1,ht1⟩: ∃y,y=upT t w 9:=⟨_,rfl⟩;obtain⟨B,hB⟩: ∃y,y=w.heap.size:=⟨_,rfl⟩;rw[<- hW1,<- ht1]at z1 b1;rw[<- hB]at b1⊢;rw[<- hW1];clear hW1 ht1 hB;obtain⟨g,P,h1⟩:=h.keep z1 (fun _ _ h=>h) id
 clear h;have sK:W1.cell? ⟨B,0,none⟩=some (.int .i64 6):=b1.b.cell 0;have sN:W1.cell? ⟨B,2,none⟩=some (nV n):=b1.b.cell 2;have j1:W1.cell? ⟨gw,1,none⟩=some (pV P.gn):=h1.b.b.cell 1;obtain⟨L,hL⟩:=h1.s;have zd:=(Stp.refl (fun _=>False) W1 t1).drew
 have hLd:=hL.keep zd (fun _ _ h=>h) id
 have hC:=Np W1.drew t1 1000 P.gn x.s.net n hLd.net;have S0:W1.cell? ⟨B,2,none⟩=some (nV n)/\ W1.cell? ⟨gw,1,none⟩=some (pV P.gn):=⟨sN,j1⟩;have Sd:W1.drew.cell? ⟨B,2,none⟩=some (nV n)/\ W1.drew.cell? ⟨gw,1,none⟩=some (pV P.gn):=⟨sN,j1⟩;have hbd:=b1.keep zd id;have hwd:=h1.b.keep zd id;go_upto_region 18 with(fail)
 go_region_held3 (fun W=>W.cell? ⟨B,2,none⟩=some (nV n)/\ W.cell? ⟨gw,1,none⟩=some (pV P.gn))
  (first|exact S0|exact Sd|exact Xf3|go_keep)
  (first
    | (go_at_call 21
       refine hC.mono ?_;rintro e w3 ⟨rfl,t3,hn3,s3⟩
       have Xf3:w3.cell? ⟨B,2,none⟩=some (nV n)/\ w3.cell? ⟨gw,1,none⟩=some (pV P.gn):=⟨(hbd.keep s3 (by omega)).b.cell 2,(hwd.keep s3 (by omega)).b.cell 1⟩))
 have h3:=hLd.kE _ s3 hn3;have w3b:=hwd.keep s3 (by omega)
 have sA:=((z1.trans zd fun _ h=>h).mono (S':=SW) fun _ h=>h.elim).trans s3 fun y (h:Mk 1000 1000 y)=>(show SW y by omega)
 clear Xf3 S0 Sd hC hbd hwd hLd zd sK sN j1 hL h1;go_wp2_with fail
 go_ret2
 exact⟨⟨_,rfl⟩,t3,⟨g,P,w3b,⟨L,h3⟩⟩,sA⟩
theorem zF (n:Nat) (h:gQ w t gw x) (hs:MX x n=some x'):
 Calls Tryz.prog 7 #[pV gw,.agg #[.int .i64 7,.int .i64 0,nV n,.slice none 0 0,.slice none 0 0]] w fun e w'=>(∃v,e= .returned v)/\ ∃t',gQ w' t' gw x'/\ Stp SW w t w' t':=by
 rw[MX]at hs;obtain⟨hg,hs⟩:=aI hs;simp only[Bool.and_eq_true,decide_eq_true_eq]at hg;obtain⟨g1,g2⟩:=hg;obtain⟨r,hr,hx'⟩:=Option.map_eq_some_iff.1 hs;subst hx';have hT:x.now+min n (ticks-x.now)=x.now+n:=by simp only[ticks];omega
 rw[hT]at hr⊢;clear hT hs;go_enter Tryz.func7,Tryz.ntmps7
 go_upto_region 1 with(fail)
 have z1:=Stp.alloc w t (fun _=>False) (.cells #[.int .i64 7,.int .i64 0,nV n,.slice none 0 0,.slice none 0 0] 36) 9
 have b1:=BT.new' w t 9 w.heap.size rfl 36 #[.int .i64 7,.int .i64 0,nV n,.slice none 0 0,.slice none 0 0];obtain⟨W1,hW1⟩: ∃W,W=w.alloc (.cells #[.int .i64 7,.int .i64 0,nV n,.slice none 0 0,.slice none 0 0] 36):=⟨_,rfl⟩;obtain⟨t1,ht1⟩: ∃y,y=upT t w 9:=⟨_,rfl⟩;obtain⟨B,hB⟩: ∃y,y=w.heap.size:=⟨_,rfl⟩;rw[<- hW1,<- ht1]at z1 b1;rw[<- hB]at b1⊢;rw[<- hW1];clear hW1 ht1 hB;obtain⟨g,P,h1⟩:=h.keep z1 (fun _ _ h=>h) id
 clear h;have sK:W1.cell? ⟨B,0,none⟩=some (.int .i64 7):=b1.b.cell 0;have sN:W1.cell? ⟨B,2,none⟩=some (nV n):=b1.b.cell 2;have j0:W1.cell? ⟨gw,0,none⟩=some (pV g):=h1.b.b.cell 0;have j3:W1.cell? ⟨gw,3,none⟩=some (nV x.now):=h1.b.b.cell 3;have f3:W1.frozen? ⟨gw,3,none⟩=false:=h1.b.b.frozen 3;have n0: ¬(n:Int)<0:=by omega
 have w1:IntKind.i64.wrap (1099511627776- (x.now:Int))=1099511627776- (x.now:Int):=IntWalk.i64_in _ (by omega)
 have hmin:min (n:Int) (1099511627776- (x.now:Int))=(n:Int):=by omega
 have w2:IntKind.i64.wrap ((x.now:Int)+(n:Int))=(x.now:Int)+(n:Int):=IntWalk.i64_in _ (by omega)
 go_upto_region 23 with(fail)
 go_region
 all_goals go_upto_region 24 with(fail)
 obtain⟨b2,z2⟩:=h1.b.aH 3 (.int .i64 ((x.now:Int)+(n:Int)));have b2:BT (W1.setCell ⟨gw,3,none⟩ (.int .i64 ((x.now:Int)+(n:Int)))) t1 8 gw 43 #[pV g,pV P.gn,nV x.many,nV (x.now+n)]:=b2;have z2:=z2.drew;have b2:=b2.drew;have c2:=b1.keep z2 (by omega)
 have h2:=h1.s.keep z2 (fun y hy (h:y=8)=>by omega) (by omega)
 obtain⟨W2,hW2⟩: ∃W,W=(W1.setCell ⟨gw,3,none⟩ (.int .i64 ((x.now:Int)+(n:Int)))).drew:=⟨_,rfl⟩;rw[<- hW2]at b2 z2 c2 h2⊢;clear hW2 sK sN j0 j3 f3 h1 b1 w1 w2 hmin;obtain⟨L,hL⟩:=h2;have zd:=(Stp.refl (fun _=>False) W2 t1).drew
 have hLd:=hL.keep zd (fun _ _ h=>h) id
 have hbd:=c2.keep zd id;have hwd:=b2.keep zd id;have S0:W2.cell? ⟨gw,0,none⟩=some (pV g)/\ W2.cell? ⟨gw,3,none⟩=some (nV (x.now+n))/\ W2.cell? ⟨B,4,none⟩=some (.slice none 0 0):=⟨b2.b.cell 0,b2.b.cell 3,c2.b.cell 4⟩;have Sd:W2.drew.cell? ⟨gw,0,none⟩=some (pV g)/\ W2.drew.cell? ⟨gw,3,none⟩=some (nV (x.now+n))/\ W2.drew.cell? ⟨B,4,none⟩=some (.slice none 0 0):=⟨hwd.b.cell 0,hwd.b.cell 3,hbd.b.cell 4⟩;have hC:=KD W2.drew t1 g x.s P L (x.now+n) r hLd hr;go_region_held3 (fun W=>W.cell? ⟨gw,0,none⟩=some (pV g)/\ W.cell? ⟨gw,3,none⟩=some (nV (x.now+n))/\ W.cell? ⟨B,4,none⟩=some (.slice none 0 0))
  (first|exact S0|exact Sd|exact Xf3|go_keep)
  (first
    | (go_at_call 22
       refine hC.mono ?_;rintro e w3 ⟨rfl,t3,hs3,s3⟩
       have Xf3:w3.cell? ⟨gw,0,none⟩=some (pV g)/\ w3.cell? ⟨gw,3,none⟩=some (nV (x.now+n))/\ w3.cell? ⟨B,4,none⟩=some (.slice none 0 0):=⟨(hwd.keep s3 (by omega)).b.cell 0,(hwd.keep s3 (by omega)).b.cell 3,(hbd.keep s3 (by omega)).b.cell 4⟩))
 have w3b:=hwd.keep s3 (by omega)
 have sA:=(((z1.mono (S':=SW) fun _ h=>h.elim).trans z2 fun y (h:y=8)=>.inl h).trans zd fun _ h=>h.elim).trans s3 fun y (h:SM y)=>.inr h
 clear Xf3 S0 Sd hC hbd hwd hLd hL zd c2 b2;go_wp2_with fail
 go_ret2
 exact⟨⟨_,rfl⟩,t3,⟨g,P,w3b,hs3⟩,sA⟩
theorem ZB (i:Nat) (p:Bs) (Ap:Option Addr) (cp:Nat) (h:gQ w t gw x) (hp:Rd w w.heap.size 1 Ap p.length (p.map bv)) (hpc:p.length<= cp) (hs:MW x i p=some x'):
 Calls Tryz.prog 7 #[pV gw,.agg #[.int .i64 2,nV i,.int .i64 0,.slice Ap p.length cp,.slice none 0 0]] w fun e w'=>(∃v,e= .returned v)/\ ∃t',gQ w' t' gw x'/\ Stp SW w t w' t':=by
 obtain⟨n,hn,hs⟩:=Option.bind_eq_some_iff.1 hs;obtain⟨hg,hs⟩:=aI hs;simp only[Bool.and_eq_true,decide_eq_true_eq,Bool.not_eq_true']at hg;obtain⟨g1,g2,g3,g4,g5⟩:=hg;obtain rfl:=Option.some.inj hs;go_enter Tryz.func7,Tryz.ntmps7
 go_upto_region 1 with(fail)
 have L1:=aj (Below.refl w.heap.size w) (.cells #[.int .i64 2,nV i,.int .i64 0,.slice Ap p.length cp,.slice none 0 0] 36);have z1:=Stp.alloc w t (fun _=>False) (.cells #[.int .i64 2,nV i,.int .i64 0,.slice Ap p.length cp,.slice none 0 0] 36) 9
 have b1:=BT.new' w t 9 w.heap.size rfl 36 #[.int .i64 2,nV i,.int .i64 0,.slice Ap p.length cp,.slice none 0 0];obtain⟨W1,hW1⟩: ∃W,W=w.alloc (.cells #[.int .i64 2,nV i,.int .i64 0,.slice Ap p.length cp,.slice none 0 0] 36):=⟨_,rfl⟩;obtain⟨t1,ht1⟩: ∃y,y=upT t w 9:=⟨_,rfl⟩;rw[<- hW1,<- ht1]at z1 b1;rw[<- hW1]at L1;obtain⟨B,hB⟩: ∃y,y=w.heap.size:=⟨_,rfl⟩;rw[<- hB]at b1⊢;rw[<- hW1];have hp1:=(hp.ah (Nat.le_refl _) L1).more L1.size;clear hW1 ht1 hB L1;obtain⟨g,P,h1⟩:=h.keep z1 (fun _ _ h=>h) id
 clear h;have sK:W1.cell? ⟨B,0,none⟩=some (.int .i64 2):=b1.b.cell 0;obtain⟨L,hL⟩:=h1.s;have za:=(Stp.alloc W1 t1 (fun _=>False) (.cells #[.slice Ap p.length cp] 33) 9).drew
 have La:=(aj (Below.refl W1.heap.size W1) (.cells #[.slice Ap p.length cp] 33)).drew;have ba:=BT.new' W1 t1 9 W1.heap.size rfl 33 #[.slice Ap p.length cp];have hLa:=hL.keep za (fun _ _ h=>h) id
 have hba:=b1.keep za id;have hwa:=h1.b.keep za id;have hC:=Xe _ _ 1000 P.gn x.s.net i n p hLa.net hn g1 g2 g3 g5 g4 (some ⟨W1.heap.size,0,none⟩) 1 Ap cp hpc ⟨_,0,rfl,ba.b.cell 0⟩ ((hp1.ah (Nat.le_refl _) La).more La.size);have S0:W1.cell? ⟨B,1,none⟩=some (nV i)/\ W1.cell? ⟨B,3,none⟩=some (.slice Ap p.length cp)/\ W1.cell? ⟨gw,1,none⟩=some (pV P.gn):=⟨b1.b.cell 1,b1.b.cell 3,h1.b.b.cell 1⟩;have Sd:W1.drew.cell? ⟨B,1,none⟩=some (nV i)/\ W1.drew.cell? ⟨B,3,none⟩=some (.slice Ap p.length cp)/\ W1.drew.cell? ⟨gw,1,none⟩=some (pV P.gn):=⟨b1.b.cell 1,b1.b.cell 3,h1.b.b.cell 1⟩;have Sa:(W1.alloc (.cells #[.slice Ap p.length cp] 33)).cell? ⟨B,1,none⟩=some (nV i)/\ (W1.alloc (.cells #[.slice Ap p.length cp] 33)).cell? ⟨B,3,none⟩=some (.slice Ap p.length cp)/\ (W1.alloc (.cells #[.slice Ap p.length cp] 33)).cell? ⟨gw,1,none⟩=some (pV P.gn):=⟨hba.b.cell 1,hba.b.cell 3,hwa.b.cell 1⟩;have Sb:(W1.alloc (.cells #[.slice Ap p.length cp] 33)).drew.cell? ⟨B,1,none⟩=some (nV i)/\ (W1.alloc (.cells #[.slice Ap p.length cp] 33)).drew.cell? ⟨B,3,none⟩=some (.slice Ap p.length cp)/\ (W1.alloc (.cells #[.slice Ap p.length cp] 33)).drew.cell? ⟨gw,1,none⟩=some (pV P.gn):=⟨hba.b.cell 1,hba.b.cell 3,hwa.b.cell 1⟩;clear hp hp1 La;go_upto_region 10 with(fail)
 go_region_held3 (fun W=>W.cell? ⟨B,1,none⟩=some (nV i)/\ W.cell? ⟨B,3,none⟩=some (.slice Ap p.length cp)/\ W.cell? ⟨gw,1,none⟩=some (pV P.gn))
  (first|exact S0|exact Sd|exact Sa|exact Sb|exact Xf3|go_keep)
  (first
    | (go_at_call 17
       refine hC.mono ?_;rintro e w3 ⟨rfl,t3,hn3,s3⟩
       have Xf3:w3.cell? ⟨B,1,none⟩=some (nV i)/\ w3.cell? ⟨B,3,none⟩=some (.slice Ap p.length cp)/\ w3.cell? ⟨gw,1,none⟩=some (pV P.gn):=⟨(hba.keep s3 (by omega)).b.cell 1,(hba.keep s3 (by omega)).b.cell 3,(hwa.keep s3 (by omega)).b.cell 1⟩))
 have h3:=hLa.kE _ s3 hn3;have w3b:=hwa.keep s3 (by omega)
 have sA:=((z1.trans za fun _ h=>h).mono (S':=SW) fun _ h=>h.elim).trans s3 fun y (h:Mk 1000 1000 y)=>(show SW y by omega)
 clear Xf3 S0 Sd Sa Sb hC hba hwa hLa za sK hL h1 ba;go_wp2_with fail
 go_ret2
 exact⟨⟨_,rfl⟩,t3,⟨g,P,w3b,⟨L,h3⟩⟩,sA⟩
end
section
variable (w:World) (t:Nat-> Nat) (gw:Nat) (x x':WlS)
theorem SA (n:Nat) (h0:1<= n) (h1:n<= 100) (h:gQ w t gw x) (hs:qW n x=some x'):
 Calls Tryz.prog 24 #[pV gw,nV n] w fun e w'=>(∃v,e= .returned (.tuple #[v,.int .i64 0]))/\ ∃t',gQ w' t' gw x'/\ Stp SW w t w' t':=by
 have n1: ¬(n:Int)<1:=by omega
 have n2: ¬(100:Int)< (n:Int):=by omega
 go_enter Tryz.func24,Tryz.ntmps24
 go_wp2_with fail
 go_loopw [6,16] (fun v6 z wr=> ∃(k:Nat) (ev:Int) (t1:Nat-> Nat) (x1:WlS),v6= .int .i64 ev/\ z= .int .i64 (k:Int)/\ k<= n/\ gQ wr t1 gw x1/\ Hid (qW (n-k) x1=some x')/\ Stp SW w t wr t1) (fun _ z _=>n- (intOf z).toNat)
 case atStart=>exact⟨0,0,t,x,rfl,rfl,Nat.zero_le _,h,Lib.hid hs,Stp.refl _ _ _⟩
 case round=>
  obtain⟨k,ev,t1,x1,rfl,rfl,hk,hx1,H,s1⟩:=hrel;clear h hs;rcases Nat.lt_or_ge k n with hlt|hge
  ·have hH:=H.out
   obtain⟨j,hj⟩: ∃j,n-k=j+1:=⟨n-k-1,by omega⟩
   rw[hj,qW]at hH;obtain⟨xE,hO,hH⟩:=Option.bind_eq_some_iff.1 hH;obtain⟨r,hr,hH⟩:=Option.bind_eq_some_iff.1 hH;have hj2:n- (k+1)=j:=by omega
   have HH:=Lib.hid hH;have HR:=Lib.hid hr;have HO:=Lib.hid hO;have HJ:=Lib.hid hj2;clear H hH hr hO hj hj2;obtain⟨m,hm⟩: ∃m,m=x1.many:=⟨_,rfl⟩;have j2:wr.cell? ⟨gw,2,none⟩=some (nV m):=by obtain⟨g,P,hx⟩:=hx1;rw[hm];exact hx.b.b.cell 2
   rw[<- hm]at HO;clear hm;go_wp2_with fail
   go_loopw [22] (fun z wr'=> ∃(i:Nat) (t2:Nat-> Nat) (x2:WlS),z= .int .i64 (i:Int)/\ i<= m/\ gQ wr' t2 gw x2/\ Hid (oh (m-i) i x2=some xE)/\ Stp SW w t wr' t2) (fun z _=>m- (intOf z).toNat)
   case atStart=>exact⟨0,t1,x1,rfl,Nat.zero_le _,hx1,HO,s1⟩
   case round=>
    obtain⟨i,t2,x2,rfl,hi,hx2,HI,s2⟩:=hrel;clear hx1 s1 HO j2;obtain⟨g,P,hxb⟩:=hx2;obtain⟨L,hL⟩:=hxb.s;rcases Nat.lt_or_ge i m with him|him
    ·have hI:=HI.out
     obtain⟨q,hq⟩: ∃q,m-i=q+1:=⟨m-i-1,by omega⟩
     have hq2:m- (i+1)=q:=by omega
     rw[hq,oh]at hI;obtain⟨nc,hnc,hI⟩:=Option.bind_eq_some_iff.1 hI;obtain⟨x3,hx3,hI⟩:=Option.bind_eq_some_iff.1 hI;have hib:i<100:=by
      have:=(List.getElem?_eq_some_iff.1 hnc).1;obtain⟨A,vc,vq,hN⟩:=hL.net;have:=hN.s;omega
     have HI2:=Lib.hid hI;have HQ:=Lib.hid hq2;clear HI hI hq hq2;have j1:wr.cell? ⟨gw,1,none⟩=some (pV P.gn):=hxb.b.b.cell 1;have hSt:=ET wr t2 1000 P.gn x2.s.net i nc hL.net hnc;go_wp2_with fail
     refine hSt.mono ?_;rintro e w5 ⟨rfl,L5⟩;have z5:=Stp.below L5 (fun _=>False) t2
     have z6:=Stp.alloc w5 t2 (fun _=>False) (.cells #[.bool nc.waits,.bool nc.op,.bool nc.broken,nV nc.peer] 91) 9
     have b6:=BT.new' w5 t2 9 w5.heap.size rfl 91 #[.bool nc.waits,.bool nc.op,.bool nc.broken,nV nc.peer];go_upto_region 10 with(fail)
     obtain⟨W6,hW6⟩: ∃W,W=w5.alloc (.cells #[.bool nc.waits,.bool nc.op,.bool nc.broken,nV nc.peer] 91):=⟨_,rfl⟩;rw[<- hW6]at z6 b6⊢;clear hW6;generalize upT t2 w5 9=t6 at*;have z56:=z5.trans z6 fun _ h=>h
     have hx6:WldB W6 t6 gw x2 g P:=⟨hxb.b.keep z56 id,hxb.s.keep z56 (fun _ _ h=>h) id⟩
     have hL6:=hL.keep z56 (fun _ _ h=>h) id
     have s6:=s2.trans z56 fun _ h=>h.elim
     have y0:W6.cell? ⟨w5.heap.size,0,none⟩=some (.bool nc.waits):=b6.b.cell 0;have y1:W6.cell? ⟨w5.heap.size,1,none⟩=some (.bool nc.op):=b6.b.cell 1;have j1:W6.cell? ⟨gw,1,none⟩=some (pV P.gn):=hx6.b.b.cell 1;clear hxb hL s2 z5 z6 z56 hSt L5 b6;cases hop:nc.op||nc.waits
     ·rw[hop,if_neg (by simp)]at hx3
      obtain rfl:=Option.some.inj hx3;rw[Bool.or_eq_false_iff]at hop;rw[hop.1]at y1;rw[hop.2]at y0;go_wp2_with fail
      go_roundw
      case rel=>exact⟨i+1,t6,x2,by go_num,him,⟨g,P,hx6⟩,by rw[HQ.out];exact HI2,s6⟩
      case measure=>simp[intOf];omega
     ·rw[hop,if_pos rfl,WU]at hx3
      obtain⟨nc2,hnc2,hx3⟩:=Option.bind_eq_some_iff.1 hx3;obtain rfl:nc=nc2:=by rw[hnc]at hnc2;exact Option.some.inj hnc2
      obtain⟨hg5,hx3⟩:=aI hx3;simp only[Bool.and_eq_true,decide_eq_true_eq]at hg5;obtain⟨g1,g2,g3,g4⟩:=hg5;obtain rfl:=Option.some.inj hx3;have hOp:=Xd W6 t6 1000 P.gn x2.s.net i nc 1048576 hL6.net hnc g1 g4 g2 g3;cases ho:nc.op
      ·have hw:nc.waits=true:=by rw[ho]at hop;simpa using hop
       rw[ho]at y1;rw[hw]at y0;have HI2:=HI2;clear hop ho hw;go_wp2_with fail
       refine hOp.mono ?_;rintro e w7 ⟨rfl,t7,hn7,s7⟩;have b7:=hx6.b.keep s7 (by omega)
       have h7:=hL6.kE _ s7 hn7;go_wp2_with fail
       go_roundw
       case rel=>exact⟨i+1,t7,{ x2 with s:= { x2.s with net:=x2.s.net.up i fun n=>mM n 1048576 } },by go_num,him,⟨g,P,b7,⟨L,h7⟩⟩,by rw[HQ.out];exact HI2,s6.trans s7 fun y (h:Mk 1000 1000 y)=>(show SW y by omega)⟩
       case measure=>simp[intOf];omega
      ·rw[ho]at y1
       clear hop ho;go_wp2_with fail
       refine hOp.mono ?_;rintro e w7 ⟨rfl,t7,hn7,s7⟩;have b7:=hx6.b.keep s7 (by omega)
       have h7:=hL6.kE _ s7 hn7;go_wp2_with fail
       go_roundw
       case rel=>exact⟨i+1,t7,{ x2 with s:= { x2.s with net:=x2.s.net.up i fun n=>mM n 1048576 } },by go_num,him,⟨g,P,b7,⟨L,h7⟩⟩,by rw[HQ.out];exact HI2,s6.trans s7 fun y (h:Mk 1000 1000 y)=>(show SW y by omega)⟩
       case measure=>simp[intOf];omega
    ·obtain rfl:i=m:=by omega
     have hI:x2=xE:=by have:=HI.out;simpa [oh] using this
     subst hI;clear HI;have j0:wr.cell? ⟨gw,0,none⟩=some (pV g):=hxb.b.b.cell 0;have j3:wr.cell? ⟨gw,3,none⟩=some (nV x2.now):=hxb.b.b.cell 3;have zd:=(Stp.refl (fun _=>False) wr t2).drew
     have hLd:=hL.keep zd (fun _ _ h=>h) id
     have hwd:=hxb.b.keep zd id;have hC:=KD wr.drew t2 g x2.s P L x2.now r hLd HR.out;have S0:wr.cell? ⟨gw,0,none⟩=some (pV g)/\ wr.cell? ⟨gw,3,none⟩=some (nV x2.now):=⟨j0,j3⟩;have Sd:wr.drew.cell? ⟨gw,0,none⟩=some (pV g)/\ wr.drew.cell? ⟨gw,3,none⟩=some (nV x2.now):=⟨j0,j3⟩;go_upto_region 13 with(fail)
     go_region_held3 (fun W=>W.cell? ⟨gw,0,none⟩=some (pV g)/\ W.cell? ⟨gw,3,none⟩=some (nV x2.now))
      (first|exact S0|exact Sd|exact Xf3|go_keep)
      (first
        | (go_at_call 22
           refine hC.mono ?_;rintro e w8 ⟨rfl,t8,h8,s8⟩
           have Xf3:w8.cell? ⟨gw,0,none⟩=some (pV g)/\ w8.cell? ⟨gw,3,none⟩=some (nV x2.now):=⟨(hwd.keep s8 (by omega)).b.cell 0,(hwd.keep s8 (by omega)).b.cell 3⟩))
     have b8:=hwd.keep s8 (by omega)
     have sA:=(s2.trans zd fun _ h=>h.elim).trans s8 fun y (h:SM y)=>.inr h
     go_wp2_with fail
     go_roundw
     case rel=>exact⟨k+1,_,t8,{ x2 with s:=r.1 },rfl,by go_num,hlt,⟨g,P,b8,h8⟩,by rw[HJ.out];exact HH,sA⟩
     case measure=>simp[intOf];omega
  ·obtain rfl:k=n:=by omega
   have hH:x1=x':=by have:=H.out;simpa [qW] using this
   subst hH;go_wp2_with fail
   go_ret2
   exact⟨⟨_,rfl⟩,t1,hx1,s1⟩
theorem ZC (n:Nat) (h0:1<= n) (h1:n<= 100) (h:gQ w t gw x) (hs:qW n x=some x'):
 Calls Tryz.prog 7 #[pV gw,.agg #[.int .i64 9,.int .i64 0,nV n,.slice none 0 0,.slice none 0 0]] w fun e w'=>(∃v,e= .returned v)/\ ∃t',gQ w' t' gw x'/\ Stp SW w t w' t':=by
 go_enter Tryz.func7,Tryz.ntmps7
 go_upto_region 1 with(fail)
 have z1:=Stp.alloc w t (fun _=>False) (.cells #[.int .i64 9,.int .i64 0,nV n,.slice none 0 0,.slice none 0 0] 36) 9
 have b1:=BT.new' w t 9 w.heap.size rfl 36 #[.int .i64 9,.int .i64 0,nV n,.slice none 0 0,.slice none 0 0];obtain⟨W1,hW1⟩: ∃W,W=w.alloc (.cells #[.int .i64 9,.int .i64 0,nV n,.slice none 0 0,.slice none 0 0] 36):=⟨_,rfl⟩;obtain⟨t1,ht1⟩: ∃y,y=upT t w 9:=⟨_,rfl⟩;obtain⟨B,hB⟩: ∃y,y=w.heap.size:=⟨_,rfl⟩;rw[<- hW1,<- ht1]at z1 b1;rw[<- hB]at b1⊢;rw[<- hW1];clear hW1 ht1 hB;have hR:=SA W1 t1 gw x x' n h0 h1 (h.keep z1 (fun _ _ h=>h) id) hs
 have sK:W1.cell? ⟨B,0,none⟩=some (.int .i64 9):=b1.b.cell 0;have sN:W1.cell? ⟨B,2,none⟩=some (nV n):=b1.b.cell 2;clear h hs h0 h1;go_wp2_with fail
 refine hR.mono ?_;rintro e w3 ⟨⟨v,rfl⟩,t3,h3,s3⟩;go_wp2_with fail
 go_ret2
 exact⟨⟨_,rfl⟩,t3,h3,(z1.mono (S':=SW) fun _ h=>h.elim).trans s3 fun _ h=>h⟩
end
end Go.Proofs.YtdmondfpepbniaaGreatDoor
