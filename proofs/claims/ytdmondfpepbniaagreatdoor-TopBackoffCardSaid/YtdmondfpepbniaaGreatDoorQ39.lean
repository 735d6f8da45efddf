/- Part 39 of the proof: VlE VwF VzA. -/
import Derived.Test.YtdmondfpepbniaaGreatDoorQ36
import Derived.Test.YtdmondfpepbniaaGreatDoorQ37
namespace Go.Proofs.YtdmondfpepbniaaGreatDoor
open Go.RowKit
set_option maxRecDepth 100000
set_option maxHeartbeats 4000000
set_option linter.all false
def evC (v:Ev):List Value:= [nV v.h.1,nV v.h.2,.int .i64 v.id,.bool v.rd,.bool v.wr]
def fA (l:List Ev):List Value:=l.flatMap evC
theorem wX (l m:List Ev):fA (l++m)=fA l++fA m:=by simp[fA]
theorem Xt (n:cu) (p:fK) (l m:List Hn):kN n p (l++m)=kN n p l++kN n p m:=by
 induction l with
 |nil=>rfl
 |cons h l ih=>
  rw[List.cons_append,kN,kN];cases aT p.all h with
  |none=>exact ih
  |some w=>simp only;split<;>simp[ih]
theorem fE:(Tryz.prog.info? 119).map (fun i=>(i.zero,i.size,i.bytes))=some (some (.agg #[.int .i64 0,.int .i64 0,.int .i64 0,.bool false,.bool false]),5,32):=by kernel_rfl
theorem Zv (n:cu) (p:fK) (h:Hn) (x:WS) (hx:aT p.all h=some x):kN n p [h]=if(pJ n x).1|| (pJ n x).2 then [⟨h,x.id,(pJ n x).1,(pJ n x).2⟩]else []:=by
 simp only[kN,hx]
theorem Ia: ∀(l:List Hn) (k:Nat) (x:Hn),l[k]? = some x->(oZ l)[k*2]? = some (nV x.1)/\ (oZ l)[k*2+1]? = some (nV x.2)
 | [],k,x,h=>by simp at h
 |y::l,0,x,h=>by
  obtain rfl:y=x:=by simpa using h
  exact⟨rfl,rfl⟩
 |y::l,k+1,x,h=>by
  have:=Ia l k x (by simpa using h)
  rw[show(k+1)*2=k*2+1+1 by omega]
  show(nV y.1::nV y.2::oZ l)[k*2+1+1]? = _/\ (nV y.1::nV y.2::oZ l)[k*2+1+1+1]? = _;simpa only[List.getElem?_cons_succ] using this
theorem Ko (n:cu) (p:fK) (l:List Hn):(kN n p l).length<= l.length:=by
 induction l with
 |nil=>exact Nat.le_refl _
 |cons h l ih=>
  rw[kN];cases aT p.all h with
  |none=>simp only[List.length_cons];omega
  |some w=>simp only;split<;>simp only[List.length_cons]<;>omega
theorem RT.RH {w:World} {t:Nat-> Nat} {τ:Nat} {e T:TypeId} {size n c:Nat} {A:Option Addr} {xs:List Value} (hu:Tryz.prog.underlying T=some (.slice (Tryz.prog.elem T))) (hz: ∀w:World,(sizeOf (Tryz.prog.elem T)).run Tryz.prog w= .ok size w) (h:RT w t τ e size (.slice A n c) n xs):
 (∀w:World,(Instr.sliceAt T (.slice A n c) none (some (.int .i64 0)) none).run Tryz.prog w= .ok (.slice A 0 c) w)/\ RT w t τ e size (.slice A 0 c) 0 []:=by
 refine⟨fun w=> ?_,?_⟩
 ·rw[run_sliceAt_slice w T _ _ _ _ hu,run_slice_h w T A n c hu .i64 0 (by omega) (by omega),hz]
  have:Option.map (fun x:Addr=>x.add 0) A=A:=by cases A<;>simp[Addr.add]
  by_cases hc:c=0
  ·subst hc;simp[Result.andThen,sliced]
  ·simp[Result.andThen,sliced,this]
 ·rcases h.2 with⟨h',rfl⟩| ⟨g,off,cap,cur,fr,h',hm,hg,hfr,hnc,hcm,hcs,htk⟩
  ·injection h' with h1 _ h2
   subst h1;subst h2;exact RT.nil _ _ _ _ _
  ·injection h' with h1 _ h2
   subst h1;subst h2;exact⟨by simp,.inr ⟨g,off,c,cur,fr,rfl,hm,hg,hfr,Nat.zero_le _,hcm,hcs,by simp⟩⟩
theorem Kq (l:List Ev): ∀u∈fA l,u.oneCell'=true:=by
 intro u hu;rw[fA,List.mem_flatMap]at hu;obtain⟨v,-,hv⟩:=hu;simp[evC]at hv;rcases hv with rfl|rfl|rfl|rfl|rfl<;>rfl
def Ib (v:Value):Nat:=match v with| .slice _ n _=>n|_=>0
theorem RI (w:World) (t:Nat-> Nat) (m mn gn g:Nat) (p:fK) (n:cu) (h:pO w t m gn g p) (hn:fP w t mn gn n) (hm:m+10<= 1000000) (hmn:mn+1000<= 1000000) (hs:p.dN.slots.length<= 5000)
 (hall: ∀a∈iV p.dN,iH a/\ ∃x,aT p.all a=some x/\ Xo n x):
 Calls Tryz.prog 48 #[pV g,.slice none 0 0] w fun e w'=> ∃v,e= .returned v/\ ∃τ t',1000000<= τ/\ RT w' t' τ 119 5 v (Ja n p).length (fA (Ja n p))/\ Stp (fun _=>False) w t w' t':=by
 obtain⟨gs,b,L,h⟩:=h;have hA:=Y4 w t (m+1) gs p.dN h.s (by omega)
 obtain⟨hs',hHs⟩: ∃l,l=iV p.dN:=⟨_,rfl⟩;have hW:Ja n p=kN n p hs':=by rw[hHs];rfl
 have hsl:hs'.length<= 5000:=by rw[hHs];exact Nat.le_trans (wK _ _) hs
 obtain⟨E0,hE0⟩: ∃E,E=kN n p hs':=⟨_,rfl⟩;rw[hW,<- hE0];rw[<- hHs]at hA hall;clear hW hHs;obtain⟨j0,j1,j2,-,-,-⟩:=h.b.b.c3;go_enter Tryz.func48,Tryz.ntmps48
 go_upto_region 4 with(fail)
 go_wp2_with fail
 refine hA.mono ?_;rintro e w1 ⟨v1,rfl,hv1,L1⟩;have hRow:=RT.Ik hv1 t 1;have s1:Stp (fun _=>False) w t w1 (upT t w 1):=Stp.dB L1 _ _
 have h1:=h.keep s1 fun _ _ h=>h
 have hn1:=hn.keep s1 fun _ _ h=>h
 have hsz1:=s1.size;generalize upT t w 1=t1 at*;obtain⟨A1,c1,rfl,hnc,hcm,-,-⟩:=hRow.form;obtain⟨τ,hτ,hfr⟩:=dW w1 t1;clear hA hv1 j0 j1 j2 hn h L1;go_wp2_with fail
 go_loopw [5,21] (fun lv z wr=> ∃(k:Nat) (tr:Nat-> Nat),z= .int .i64 (k:Int)/\ k<= hs'.length/\ RT wr tr τ 119 5 lv (kN n p (hs'.take k)).length (fA (kN n p (hs'.take k)))/\ Stp (fun x=>τ<= x) w1 t1 wr tr) (fun _ z _=>hs'.length- (intOf z).toNat)
 case atStart=>exact⟨0,t1,rfl,Nat.zero_le _,RT.nil _ _ _ _ _,Stp.refl _ _ _⟩
 case round=>
  obtain⟨k,tr,rfl,hk,hE,sr⟩:=hrel;have hr:=h1.keep sr fun y hy=>by omega
  have hnr:=hn1.keep sr fun y hy=>by omega
  rcases Nat.lt_or_ge k hs'.length with hkl|hkl
  ·obtain⟨a,hka⟩: ∃a,hs'[k]? = some a:=⟨_,List.getElem?_eq_getElem hkl⟩
   obtain⟨ha,x,hx,hok⟩:=hall a (List.mem_of_getElem? hka);obtain⟨ga,o,cap,e1,hga,hma,hca⟩:=(hRow.keep sr (by omega)).at_ (by omega)
   have y0:=(hca (k*2) (by omega)).1.trans (Ia hs' k a hka).1
   have y1:wr.cell? ⟨ga,o+k*2+1,none⟩=some (nV a.2):=by rw[Nat.add_assoc];exact(hca (k*2+1) (by omega)).1.trans (Ia hs' k a hka).2
   injection e1 with e1 _ e2
   subst e1 e2;clear hca;go_upto_region 7 with(fail)
   have s0:Stp (fun x=>τ<= x) wr tr (wr.alloc (.cells #[.int .i64 a.1,.int .i64 a.2] 72)) (upT tr wr (τ+1)):=Stp.alloc wr tr _ _ _
   have sF:Stp (fun _=>False) wr tr (wr.alloc (.cells #[.int .i64 a.1,.int .i64 a.2] 72)) (upT tr wr (τ+1)):=Stp.alloc wr tr _ _ _
   have BV:=BT.new' wr tr (τ+1) wr.heap.size rfl 72 #[.int .i64 a.1,.int .i64 a.2];obtain⟨V,hV⟩: ∃V,V=wr.alloc (.cells #[.int .i64 a.1,.int .i64 a.2] 72):=⟨_,rfl⟩;rw[<- hV]at s0 sF BV⊢;clear hV;have hB:=hr.keep sF fun _ _ h=>h
   have hnV:=hnr.keep sF fun _ _ h=>h
   have hEV:=hE.keep sF id;have sV:=sr.trans s0 fun _ h=>h
   generalize upT tr wr (τ+1)=t2 at*;obtain⟨j0,j1,j2,-,-,-⟩:=hB.b.b.c3;obtain⟨k0,k1,-,-⟩:=BV.b.c2;have hgt:=hB.get a;rw[hx]at hgt;obtain⟨⟨gx,x'⟩,hL,rfl⟩: ∃y,aT L a=some y/\ y.2=x:=by
    cases hy:aT L a with
    |none=>rw[hy]at hgt;cases hgt
    |some y=>rw[hy]at hgt;injection hgt with hgt;exact⟨y,rfl,hgt.symm⟩
   have hk0:=hB.look a ha _ hL V.drew rfl;have hT:=Ry V.drew t2 m mn gn g p n gs b gx a x' L (hB.keep (Stp.refl (fun _=>False) V t2).drew fun _ _ h=>h) (cZ hL) (hnV.keep (Stp.refl (fun _=>False) V t2).drew fun _ _ h=>h) hok
   have x0:V.cell? ⟨gx,0,none⟩=some (.int .i64 x'.id):=(hB.x _ (cZ hL)).b.cell 0;have hev:=Zv n p a x' hx;have htk:kN n p (hs'.take (k+1))=kN n p (hs'.take k)++kN n p [a]:=by rw[List.take_add_one,hka,Xt];rfl
   rw[hev]at htk;have hlen:(kN n p (hs'.take k)).length<= 1000000:=by have:=Ko n p (hs'.take k);rw[List.length_take]at this;omega
   obtain⟨E,hE1⟩: ∃E,E=kN n p (hs'.take k):=⟨_,rfl⟩;obtain⟨⟨r1,r2⟩,hrr⟩: ∃r,r=pJ n x':=⟨_,rfl⟩;rw[<- hrr]at hT hev htk;rw[<- hE1]at hEV htk hlen;clear hE hE1 hrr hev hgt y0 y1 sr s0 sF hr hnr hB hnV;go_region
   go_wp2_with fail
   refine hT.mono ?_;rintro e w5 ⟨rfl,q,rfl⟩;clear hT hk0;have hrel: ∀(rr1 rr2:Bool) (W:World) (t5:Nat-> Nat) (v:Value) (E':List Ev),E'=E++(if rr1||rr2 then [⟨a,x'.id,rr1,rr2⟩]else [])-> r1=rr1-> r2=rr2-> RT W t5 τ 119 5 v E'.length (fA E')-> Stp (fun x=>τ<= x) V t2 W t5->
    ∃(k':Nat) (tr:Nat-> Nat),(Value.int .i64 ((k:Int)+1))= .int .i64 (k':Int)/\ k'<= hs'.length/\ RT W tr τ 119 5 v (kN n p (hs'.take k')).length (fA (kN n p (hs'.take k')))/\ Stp (fun x=>τ<= x) w1 t1 W tr:=by
    rintro rr1 rr2 W t5 v E' e1 rfl rfl h3 h4;refine⟨k+1,t5,by go_num,hkl,?_,sV.trans h4 fun _ h=>h⟩
    rw[htk];subst e1;exact h3
   have hE2:=hEV.drew.drewN q;have x2:(V.drew.drewN q).cell? ⟨gx,0,none⟩=some (.int .i64 x'.id):=x0;have k2:(V.drew.drewN q).cell? ⟨wr.heap.size,0,none⟩=some (.int .i64 a.1):=k0;have k3:(V.drew.drewN q).cell? ⟨wr.heap.size,1,none⟩=some (.int .i64 a.2):=k1;have sD:Stp (fun x=>τ<= x) V t2 (V.drew.drewN q) t2:=((Stp.refl _ V t2).drew).drewN q
   obtain⟨W,hW⟩: ∃W,W=V.drew.drewN q:=⟨_,rfl⟩;rw[<- hW]at hE2 x2 k2 k3 sD⊢;clear hW htk hEV sV x0 k0 k1;cases hr1:r1<;>cases hr2:r2
   ·go_wp2_with fail
    go_roundw
    case rel=>exact hrel false false W t2 _ E (by simp) hr1 hr2 hE2 sD
    case measure=>simp[intOf];omega
   ·go_upto_region 10 with(fail)
    go_region_law (first| (refine mV rfl (.tmp 41) (.tmp 50) 116 rfl 119 _ 5 32 Tryz.underlying116 fE rfl t2 τ u5 E.length (fA E) rfl hE2 (evC ⟨a,x'.id,false,true⟩) _ rfl rfl rfl (by intro u hu;simp[evC]at hu;rcases hu with rfl|rfl|rfl|rfl|rfl<;>rfl) (by omega) ?_;intro v' w3 t3 hr3 hs3)| (refine kQ rfl (.tmp 41) (.tmp 50) 116 rfl 119 _ 5 32 Tryz.underlying116 fE rfl t2 τ u5 E.length (fA E) rfl hE2 (evC ⟨a,x'.id,false,true⟩) _ rfl rfl rfl (by intro u hu;simp[evC]at hu;rcases hu with rfl|rfl|rfl|rfl|rfl<;>rfl) (by omega) ?_;intro v' w3 t3 hr3 hs3))
    all_goals
     go_wp2_with fail
     go_roundw
     case rel=>exact hrel false true w3 t3 v' (E++ [⟨a,x'.id,false,true⟩]) rfl hr1 hr2 (by rw[List.length_append,wX];exact hr3) (sD.trans (hs3 (fun x=>τ<= x) (Nat.le_refl _)) fun _ h=>h)
     case measure=>simp[intOf];omega
   ·go_upto_region 10 with(fail)
    go_region_law (first| (refine mV rfl (.tmp 41) (.tmp 50) 116 rfl 119 _ 5 32 Tryz.underlying116 fE rfl t2 τ u5 E.length (fA E) rfl hE2 (evC ⟨a,x'.id,true,false⟩) _ rfl rfl rfl (by intro u hu;simp[evC]at hu;rcases hu with rfl|rfl|rfl|rfl|rfl<;>rfl) (by omega) ?_;intro v' w3 t3 hr3 hs3)| (refine kQ rfl (.tmp 41) (.tmp 50) 116 rfl 119 _ 5 32 Tryz.underlying116 fE rfl t2 τ u5 E.length (fA E) rfl hE2 (evC ⟨a,x'.id,true,false⟩) _ rfl rfl rfl (by intro u hu;simp[evC]at hu;rcases hu with rfl|rfl|rfl|rfl|rfl<;>rfl) (by omega) ?_;intro v' w3 t3 hr3 hs3))
    all_goals
     go_wp2_with fail
     go_roundw
     case rel=>exact hrel true false w3 t3 v' (E++ [⟨a,x'.id,true,false⟩]) rfl hr1 hr2 (by rw[List.length_append,wX];exact hr3) (sD.trans (hs3 (fun x=>τ<= x) (Nat.le_refl _)) fun _ h=>h)
     case measure=>simp[intOf];omega
   ·go_upto_region 10 with(fail)
    go_region_law (first| (refine mV rfl (.tmp 41) (.tmp 50) 116 rfl 119 _ 5 32 Tryz.underlying116 fE rfl t2 τ u5 E.length (fA E) rfl hE2 (evC ⟨a,x'.id,true,true⟩) _ rfl rfl rfl (by intro u hu;simp[evC]at hu;rcases hu with rfl|rfl|rfl|rfl|rfl<;>rfl) (by omega) ?_;intro v' w3 t3 hr3 hs3)| (refine kQ rfl (.tmp 41) (.tmp 50) 116 rfl 119 _ 5 32 Tryz.underlying116 fE rfl t2 τ u5 E.length (fA E) rfl hE2 (evC ⟨a,x'.id,true,true⟩) _ rfl rfl rfl (by intro u hu;simp[evC]at hu;rcases hu with rfl|rfl|rfl|rfl|rfl<;>rfl) (by omega) ?_;intro v' w3 t3 hr3 hs3))
    all_goals
     go_wp2_with fail
     go_roundw
     case rel=>exact hrel true true w3 t3 v' (E++ [⟨a,x'.id,true,true⟩]) rfl hr1 hr2 (by rw[List.length_append,wX];exact hr3) (sD.trans (hs3 (fun x=>τ<= x) (Nat.le_refl _)) fun _ h=>h)
     case measure=>simp[intOf];omega
  ·obtain rfl:k=hs'.length:=by omega
   rw[List.take_length]at hE;have hEl:E0.length<= 5000:=by rw[hE0];exact Nat.le_trans (Ko _ _ _) hsl
   rw[<- hE0]at hE;clear hE0 hr hnr hall;go_wp2_with fail
   go_loopw [1,5,11] (fun pv lv ov w2=>pv= .slice none 0 0/\ ∃(j:Nat) (tr2:Nat-> Nat),j<= E0.length/\ RT w2 tr2 τ 119 5 lv (E0.drop j).length (fA (E0.drop j))/\ RT w2 tr2 (τ+1) 119 5 ov (E0.take j).length (fA (E0.take j))/\ Stp (fun x=>τ<= x) w1 t1 w2 tr2) (fun _ lv _ _=>Ib lv)
   case atStart=>exact⟨rfl,0,tr,Nat.zero_le _,by simpa using hE,RT.nil _ _ _ _ _,sr⟩
   case round=>
    obtain⟨rfl,j,t2,hj,hl,ho,s2⟩:=hrel;obtain⟨A5,c5,rfl,hn5,hm5,hr5,-⟩:=hl.form;have hdl:(E0.drop j).length=E0.length-j:=List.length_drop;rcases Nat.lt_or_ge j E0.length with hjl|hjl
    ·obtain⟨v,hv⟩: ∃v,E0[j]? = some v:=⟨_,List.getElem?_eq_getElem hjl⟩
     obtain⟨g5,o5,cap,e1,hg5,hm5,hc5⟩:=hl.at_ (by omega)
     injection e1 with e1 _ e2
     subst e1 e2;have hd5:E0.drop j=v::E0.drop (j+1):=by rw[List.drop_eq_getElem_cons hjl];congr 1;rw[List.getElem?_eq_getElem hjl]at hv;exact Option.some.inj hv
     have he5:fA (E0.drop j)=evC v++fA (E0.drop (j+1)):=by rw[hd5];rfl
     have hcc: ∀(i:Nat) (u:Value),(evC v)[i]? = some u-> wr.cell? ⟨g5,o5+i,none⟩=some u:=fun i u hu=>by
      have hi:i<5:=by have:=(List.getElem?_eq_some_iff.1 hu).1;simpa [evC] using this
      rw[(hc5 i (by omega)).1,he5,List.getElem?_append_left (by simpa [evC] using hi)];exact hu
     have q0:wr.cell? ⟨g5,o5,none⟩=some (nV v.h.1):=hcc 0 _ rfl;have q1:wr.cell? ⟨g5,o5+1,none⟩=some (nV v.h.2):=hcc 1 _ rfl;have q2:wr.cell? ⟨g5,o5+2,none⟩=some (.int .i64 v.id):=hcc 2 _ rfl;have q3:wr.cell? ⟨g5,o5+3,none⟩=some (.bool v.rd):=hcc 3 _ rfl;have q4:wr.cell? ⟨g5,o5+4,none⟩=some (.bool v.wr):=hcc 4 _ rfl;have hpos:(0:Int)< ((E0.drop j).length:Int):=by omega
     obtain⟨A6,c6,rfl,-,-,-,-⟩:=ho.form;have htl:(E0.take j).length=j:=by rw[List.length_take];omega
     go_wp2_with (at_builtin;go_must (refine qy rfl (.tmp 68) (.tmp 73) 116 rfl 119 _ 5 32 Tryz.underlying116 fE rfl t2 (τ+1) (.slice A6 (E0.take j).length c6) (E0.take j).length (fA (E0.take j)) rfl ho (evC v) wr.heap.size rfl rfl rfl (by intro u hu;simp[evC]at hu;rcases hu with rfl|rfl|rfl|rfl|rfl<;>rfl) (by omega) ?_;intro v' w3 t3 hr3 hs3;go_frame))
     have hl3:=hl.keep (hs3 (fun x=>x=τ+1) rfl) (by omega)
     obtain⟨e0,hl0⟩:=hl3.RH (T:=116) (by kernel_rfl) (fun w=>by kernel_rfl)
     have hdd:(fA (E0.drop j)).drop (1*5)=fA (E0.drop (j+1)):=by rw[he5];rfl
     have hd1:(E0.drop j).length-1=E0.length- (j+1):=by omega
     have hl8:=hl3.from_ (k:=1) (by omega)
     rw[hdd,hd1]at hl8;clear q0 q1 q2 q3 q4 hc5 hcc hdd hd1;have hwr1:IntKind.i64.wrap 1=1:=by rfl
     have h11:(1:Int)<=((E0.length- (j+1):Nat):Int)+1:=by omega
     have hE5:fA (E0.take j)++evC v=fA (E0.take (j+1)):=by
      rw[List.take_add_one,hv,wX];simp[fA]
     have hfin: ∀(v5:Value) (w5:World) (t5:Nat-> Nat),RT w5 t5 τ 119 5 v5 (0+(E0.length- (j+1))) ([]++fA (E0.drop (j+1)))->(∀S:Nat-> Prop,S τ-> Stp S w3.drew t3 w5 t5)->
      ∃(j':Nat) (tr2:Nat-> Nat),j'<= E0.length/\ RT w5 tr2 τ 119 5 v5 (E0.drop j').length (fA (E0.drop j'))/\ RT w5 tr2 (τ+1) 119 5 v' (E0.take j').length (fA (E0.take j'))/\ Stp (fun x=>τ<= x) w1 t1 w5 tr2:=by
      intro v5 w5 t5 h5 z5;refine⟨j+1,t5,hjl,by simpa using h5,?_,(s2.trans (hs3 (fun x=>τ<= x) (Nat.le_succ _)).drew fun _ h=>h).trans (z5 (fun x=>τ<= x) (Nat.le_refl _)) fun _ h=>h⟩
      rw[<- hE5];exact((hr3.drew).keep (z5 (fun x=>x=τ) rfl) (by omega)).to (by rw[List.length_take,List.length_take];omega)
     have hmea: ∀(v5:Value) (w5:World) (t5:Nat-> Nat),RT w5 t5 τ 119 5 v5 (0+(E0.length- (j+1))) ([]++fA (E0.drop (j+1)))-> Ib v5<Ib (.slice (some ⟨g5,o5,none⟩) (E0.length- (j+1)+1) c5):=by
      intro v5 w5 t5 h5;obtain⟨A9,c9,rfl,-,-,-,-⟩:=h5.form;simp only[Ib];omega
     by_cases hc:c5=1
     ·rw[if_pos hc]at hl8
      subst hc;obtain⟨A9,c9,e9,-,-,hr9,-⟩:=hl8.form;injection e9 with e9 _ e10
      subst e9;clear e10 hr5
      go_region_law (refine rC rfl (.tmp 77) (.tmp 81) 116 116 rfl 119 _ 5 32 Tryz.underlying116 (.inl Tryz.underlying116) fE rfl t3 τ (.slice (some ⟨g5,o5,none⟩) 0 1) 0 [] (by go_simp) hl0.drew (.slice (some ⟨g5,o5,none⟩) (E0.length- (j+1)) 0) (E0.length- (j+1)) (fA (E0.drop (j+1))) (by go_simp) (Src.fB (c:=0) hr9.drew (Kq _)) (by omega) ?_;intro v5 w5 t5 hr5 hs5)
      go_wp2_with fail
      go_roundw
      case rel=>
       obtain⟨j',tr2,p1,p2,p3,p4⟩:=hfin v5 w5 t5 hr5 hs5;exact⟨_,v5,v',⟨rfl,j',p1,tr2,by simpa using p2,by simpa using p3,p4⟩,rfl,rfl,rfl⟩
      case measure=>exact hmea v5 w5 t5 hr5
     ·rw[if_neg hc]at hl8
      obtain⟨A9,c9,e9,-,-,hr9,-⟩:=hl8.form;injection e9 with e9 _ e10
      subst e9;clear e10 hr5
      go_region_law (refine rC rfl (.tmp 77) (.tmp 81) 116 116 rfl 119 _ 5 32 Tryz.underlying116 (.inl Tryz.underlying116) fE rfl t3 τ (.slice (some ⟨g5,o5,none⟩) 0 c5) 0 [] (by go_simp) hl0.drew (.slice (some ⟨g5,o5+5,none⟩) (E0.length- (j+1)) (c5-1)) (E0.length- (j+1)) (fA (E0.drop (j+1))) (by go_simp) (Src.fB (c:=(c5-1)) hr9.drew (Kq _)) (by omega) ?_;intro v5 w5 t5 hr5 hs5)
      go_wp2_with fail
      go_roundw
      case rel=>
       obtain⟨j',tr2,p1,p2,p3,p4⟩:=hfin v5 w5 t5 hr5 hs5;exact⟨_,v5,v',⟨rfl,j',p1,tr2,by simpa using p2,by simpa using p3,p4⟩,rfl,rfl,rfl⟩
      case measure=>exact hmea v5 w5 t5 hr5
    ·have hz:(E0.drop j).length=0:=by omega
     have hE9:E0.take j=E0:=List.take_of_length_le hjl;rw[hE9]at ho;go_wp2_with fail
     go_ret
     exact⟨_,rfl,τ+1,t2,by omega,ho,s1.trans (s2.drop (S':=fun _=>False) fun k hk hS=>by have:=hfr k hk;omega) fun _ h=>h⟩
theorem WhB.aaZ {w:World} {t:Nat-> Nat} {m g:Nat} {s:WhS} {gs bt:Nat} {LB:Nat-> Nat} {T:TL} (h:WhB w t m g s gs bt LB T) (o:Nat):
 WhB (w.setCell ⟨g,0,none⟩ (nV o)) t m g { s with now:=o } gs bt LB T/\ Stp (fun y=>y=m) w t (w.setCell ⟨g,0,none⟩ (nV o)) t:=by
 obtain⟨b1,z1⟩:=h.b.aH 0 (nV o);exact⟨⟨b1.to (WV ..),h.sb.keep z1 (by omega) (by omega),h.a.keep z1 (by omega),h.l,h.d,fun y hy=>(h.x y hy).keep z1 (by omega),fun k hk=>(h.z k hk).keep z1 (by omega)⟩,z1⟩
def FirK (w:World) (t:Nat-> Nat) (m τ:Nat) (v:Value):List jh-> Prop
 | []=>v= .slice none 0 0
 | [x]=> ∃p,RT w t τ 210 1 v 1 [pV p]/\ BT w t (m+7) p 213 (MZ x)
 |_=>False
theorem NH:(Tryz.prog.info? 210).map (fun i=>(i.zero,i.size,i.bytes))=some (some (.pointer none),1,8):=by kernel_rfl
theorem Kr (w:World) (t:Nat-> Nat) (m g:Nat) (s:WhS) (now:Nat) (h:WhK w t m g s) (hm:m+340<= 1000000) (hok:JI s now=true):
 Calls Tryz.prog 68 #[pV g,nV now] w fun e w'=> ∃v,e= .returned v/\ ∃τ t',1000000<= τ/\ RT w' t' τ 3 1 v (vY s now).2.length ((vY s now).2.map (.int .i64))/\ WhK w' t' m g (vY s now).1/\ Stp (Mk m 340) w t w' t':=by
 unfold JI at hok;simp only[Bool.and_eq_true,decide_eq_true_eq,List.all_eq_true,List.mem_range]at hok;obtain⟨h1,h2,hone,hmv⟩:=hok;obtain⟨now',RJ⟩: ∃n,n=min (max now s.now) ticks:=⟨_,rfl⟩;have hA:uJ s now=(iy { s with now:=now' } s.now).foldl UE ({ s with now:=now' },[]):=by rw[RJ];rfl
 have hAd:vY s now=((uJ s now).1,(uJ s now).2.map (·.what)):=rfl
 rw[hAd];rw[<- RJ]at hone hmv;have hn4:now'<4096:=by rw[RJ];unfold ticks;omega
 have hwn:s.now<= now':=by rw[RJ];unfold ticks;omega
 have hnI:min (max (now:Int) (s.now:Int)) 1099511627776=(now':Int):=by rw[RJ];unfold ticks;omega
 clear hAd RJ;obtain⟨hs,hhs⟩: ∃l,l=iy { s with now:=now' } s.now:=⟨_,rfl⟩;rw[<- hhs]at hA hmv;have hMv:=fun w t (h:WhK w t m g { s with now:=now' })=>QV w t m g { s with now:=now' } s.now h hwn hn4 hm hone
 rw[<- hhs]at hMv;clear hhs hone;obtain⟨⟨a1,fl⟩,hF⟩: ∃r,r=uJ s now:=⟨_,rfl⟩;rw[<- hF]at hA⊢;clear hF;obtain⟨gs,bt,LB,T,h⟩:=h;obtain⟨j0,j1,j2,j3⟩:=h.cs;have f0:w.frozen? ⟨g,0,none⟩=false:=h.b.b.frozen 0;go_enter Tryz.func68,Tryz.ntmps68
 go_upto_region 6 with(fail)
 have hD:WhB (w.setCell ⟨g,0,none⟩ (.int .i64 (now':Int))) t m g { s with now:=now' } gs bt LB T/\ Stp (fun y=>y=m) w t (w.setCell ⟨g,0,none⟩ (.int .i64 (now':Int))) t:=h.aaZ now'
 obtain⟨hB,s1⟩:=hD;obtain⟨W,hW⟩: ∃W,W=w.setCell ⟨g,0,none⟩ (.int .i64 (now':Int)):=⟨_,rfl⟩;rw[<- hW]at hB s1⊢;have sA:=s1.mono (S':=Mk m 340) fun y (h:y=m)=>(show Mk m 340 y by omega)
 clear hW h j0 j1 j2 j3 f0 s1;go_wp2_with fail
 refine(hMv W t ⟨gs,bt,LB,T,hB⟩).mono ?_;rintro e w1 ⟨v,rfl,τ,t1,hτ,hR,s2⟩;have hB1:=hB.keep s2 fun _ _ h=>h
 have sB:=sA.trans s2 fun _ h=>h.elim
 clear hMv hB sA s2;obtain⟨n,hn⟩: ∃n,n=hs.length:=⟨_,rfl⟩;rw[<- hn]at hR;have HN:=Lib.hid hn;clear hn;obtain⟨A1,c1,rfl,-,-,-,-⟩:=hR.form;obtain⟨τ2,hτ2,hfr2⟩:=dW w1 t1;go_wp2_with fail
 go_loopw [6,30] (fun fv z wr=>(z= .int .i64 0/\ n=1/\ fv= .slice none 0 0/\ w1=wr)\/ (z= .int .i64 (n:Int)/\ ∃tr,FirK wr tr m τ2 fv fl/\ WhK wr tr m g a1/\ Stp (Mk m 340) w t wr tr)) (fun _ z _=>n- (intOf z).toNat)
 case atStart=>
  rcases hs with _| ⟨a,_| ⟨b,hs⟩⟩
  ·obtain⟨rfl,rfl⟩:=Prod.mk.inj hA
   exact .inr ⟨by rw[HN.out];rfl,t1,rfl,⟨gs,bt,LB,T,hB1⟩,sB⟩
  ·exact .inl ⟨rfl,HN.out,rfl,rfl⟩
  ·exact absurd hmv (by simp)
 case round=>
  rcases hrel with⟨rfl,hl1,rfl,rfl⟩| ⟨rfl,tr,hFi,hK,sK⟩
  ·have hn0:(0:Int)< (n:Int):=by omega
   have hN1:=HN.out;rcases hs with _| ⟨a,_| ⟨b,hs⟩⟩
   ·exact absurd (hl1.symm.trans hN1) (by simp)
   ·simp only[Bool.and_eq_true,decide_eq_true_eq]at hmv
    obtain⟨ha1,ha2,hmv⟩:=hmv;have ha:iH a:=⟨ha1,ha2⟩;cases hx:aT s.dZ a with
    |none=>rw[hx]at hmv;exact absurd hmv (by simp)
    |some x=>
     rw[hx]at hmv;simp only[Bool.and_eq_true,decide_eq_true_eq]at hmv;obtain⟨hlv,hsl,hxt,hl⟩:=hmv;have hmv:=trivial;obtain⟨gx,hL⟩:=hB1.found hx;obtain⟨ga,o,cap,e1,hga,hma,hca⟩:=hR.at_ (by omega)
     injection e1 with e1 _ e2
     subst e1 e2;have y0:w1.cell? ⟨ga,o,none⟩=some (nV a.1):=(hca 0 (by omega)).1
     have y1:w1.cell? ⟨ga,o+1,none⟩=some (nV a.2):=(hca 1 (by omega)).1
     have HL1:=Lib.hid hl1;clear hca hl1 hN1 hmv;go_upto_region 9 with(fail)
     have s0:Stp (fun _=>False) w1 t1 (w1.alloc (.cells #[.int .i64 a.1,.int .i64 a.2] 72)) (upT t1 w1 (τ2+1)):=Stp.alloc w1 t1 _ _ _
     have BV:=BT.new' w1 t1 (τ2+1) w1.heap.size rfl 72 #[.int .i64 a.1,.int .i64 a.2];obtain⟨V,hV⟩: ∃V,V=w1.alloc (.cells #[.int .i64 a.1,.int .i64 a.2] 72):=⟨_,rfl⟩;rw[<- hV]at s0 BV⊢;clear hV;have hB:=hB1.keep s0 fun _ _ h=>h
     generalize upT t1 w1 (τ2+1)=t2 at*;obtain⟨j0,j1,j2,j3⟩:=hB.cs;obtain⟨k0,k1,-,-⟩:=BV.b.c2;have hk0:=hB.look a ha _ hL V.drew rfl;go_region
     have sd:Stp (fun _=>False) V t2 V.drew t2:=(Stp.refl _ _ _).drew
     have hB2:=hB.keep sd fun _ _ h=>h
     have BV2:=BV.keep sd id;have s2:=(s0.trans sd fun _ h=>h).mono (S':=Mk m 340) fun _ h=>h.elim
     clear hk0 hB BV s0 sd j0 j1 j2 j3 k0 k1 y0 y1 hR hB1;obtain⟨U,hW2⟩: ∃W,W=V.drew:=⟨_,rfl⟩;rw[<- hW2]at hB2 BV2 s2⊢;clear hW2;obtain⟨k0,k1,-,-⟩:=BV2.b.c2;go_wp2_with fail
     refine(EU U t2 m g { s with now:=now' } gs bt LB T a x hB2 ha hx hlv hsl).mono ?_
     rintro e w3 ⟨rfl,t3,hB3,s3⟩;have BV3:=BV2.keep s3 (by omega)
     have sC:=s2.trans s3 fun _ h=>h
     clear hB2 BV2 s2 s3 k0 k1;obtain⟨j0,j1,j2,j3⟩:=hB3.cs;replace j0:w3.cell? ⟨g,0,none⟩=some (nV now'):=j0;obtain⟨k0,k1,-,-⟩:=BV3.b.c2;have hX:=hB3.x _ (cZ hL);have x0:w3.cell? ⟨gx,0,none⟩=some (nV x.at_):=hX.b.cell 0;have hA1:(a1,fl)=if now'<x.at_ then(iG (fV { s with now:=now' } a x) a x,[])else({ fV { s with now:=now' } a x with dZ:=jO s.dZ a,dN:=gY s.dN a },[x]):=by
      rw[hA];simp only[List.foldl_cons,List.foldl_nil,UE,hx];rfl
     clear hA;by_cases hlt:now'<x.at_
     ·rw[if_pos hlt]at hA1
      obtain⟨rfl,rfl⟩:=Prod.mk.inj hA1;go_upto_region 11 with(fail)
      go_quiet (fail)
      have sN:=(Stp.refl (fun _=>False) w3 t3).drewN nq
      have hB4:=hB3.keep sN fun _ _ h=>h
      have sD:=(sC.trans sN fun _ h=>h.elim)
      have hLY:=CB (w3.drewN nq) t3 m g (fV { s with now:=now' } a x) a x ⟨gs,bt,LB,T,hB4⟩ ha hx hn4 hxt
      go_wp2_with fail
      refine hLY.mono ?_;rintro e w5 ⟨rfl,t5,hK5,s5⟩;go_wp2_with fail
      go_roundw
      case rel=>exact .inr ⟨by rw[HL1.out];go_num,t5,rfl,hK5,sB.trans (sD.trans s5 fun _ h=>h) fun _ h=>h⟩
      case measure=>rw[HL1.out];simp[intOf]
     ·rw[if_neg hlt]at hA1
      obtain⟨rfl,rfl⟩:=Prod.mk.inj hA1;have hge:x.at_<= now':=Nat.le_of_not_lt hlt;go_upto_region 11 with(fail)
      go_quiet (fail)
      have sN:=(Stp.refl (fun _=>False) w3 t3).drewN nq
      have hB4:=hB3.keep sN fun _ _ h=>h
      have BV4:=BV3.keep sN id;have sD:=(sC.trans sN fun _ h=>h.elim)
      have hN4:=RT.nil (w3.drewN nq) t3 τ2 210 1;have sQ:=sD;obtain⟨W3,hW3⟩: ∃W,W=w3.drewN nq:=⟨_,rfl⟩;rw[<- hW3]at sN hB4 BV4 sD sQ hN4⊢;clear hW3 hB3 BV3 sC sN j0 j1 j2 j3 k0 k1 hX x0;go_wp2_with (at_builtin;go_must (refine qy rfl (.tmp 55) (.tmp 57) 208 rfl 210 _ 1 8 Tryz.underlying208 NH rfl t3 τ2 (.slice none 0 0) 0 [] (by go_simp) hN4 [pV gx] W3.heap.size rfl (by go_simp) rfl (by intro u hu;simp at hu;subst hu;rfl) (by decide) ?_;intro v' w5 t5 hr5 hs5;go_frame))
      have zA:=hs5 (fun y=>y=τ2) rfl
      have hB5:=hB4.keep zA fun y hy=>by omega
      have BV5:=BV4.keep zA (by omega)
      have sE:Stp (fun y=>Mk m 340 y\/ τ2<= y) w1 t1 _ _:=(((sQ.mono (S':=fun y=>Mk m 340 y\/ τ2<= y) fun _ h=>.inl h)).trans zA fun y (h:y=τ2)=>.inr (by omega))
      clear hB4 BV4 sD sQ zA hN4;obtain⟨j0,j1,j2,j3⟩:=hB5.cs;obtain⟨k0,k1,-,-⟩:=BV5.b.c2;obtain⟨w6,hrun,hA6,hS6⟩:=(show MT w5.drew t5 (m+6) bt hnV iH (fun y:Nat×jh=>pV y.1) T from hB5.a).del uQ Tryz.underlying135 0 a ha
      go_region
      have z6:Stp (fun y=>y=m+6) w5 t5 w6 t5:=((Stp.refl _ w5 t5).drew).trans (hS6 (fun y=>y=m+6) rfl) fun _ h=>h
      have hX6:=(hB5.x _ (cZ hL)).keep z6 (by omega)
      have hB6:=hB5.del hA6 z6;have BV6:=BV5.keep z6 (by omega)
      have hr6:=hr5.keep z6 (by omega)
      have sF:=sE.trans z6 fun y (h:y=m+6)=>.inl (show Mk m 340 y by omega)
      clear hB5 BV5 sE hA6 hS6 z6 hrun j0 j1 j2 j3 k0 k1 hr5;obtain⟨j0,j1,j2,j3⟩:=hB6.cs;obtain⟨k0,k1,-,-⟩:=BV6.b.c2;go_upto_region 15 with(fail)
      have sX:=(Stp.alloc w6 t5 (fun _=>False) (.cells #[.int .i64 a.1,.int .i64 a.2] 72) (τ2+1)).drew
      have bX:=(BT.new' w6 t5 (τ2+1) w6.heap.size rfl 72 #[.int .i64 a.1,.int .i64 a.2]).drew;have hBX:=hB6.keep sX fun _ _ h=>h
      have hrX:=hr6.keep sX id;have hXX:=hX6.keep sX id;have hCall:=QM _ _ (m+1) gs s.dN a hBX.sb (some ⟨w6.heap.size,0,none⟩) 1 hl ⟨w6.heap.size,0,rfl,bX.lt,bX.b.cell 0,bX.b.cell 1⟩;have l5:w1.heap.size<w6.heap.size:=BV6.lt;have l6:g<w6.heap.size:=hB6.b.lt
      go_region_with (go_at_call 84;refine hCall.mono ?_;rintro e w7 ⟨⟨v9,rfl,hv0,hv1⟩,t7,hs7,s7⟩)
      all_goals
       go_wp2_with fail
       go_roundw
       case rel=>
        have sG:=(sF.trans sX fun _ h=>h.elim).trans s7 fun y (h:jf (m+1) y)=>.inl (show Mk m 340 y by omega)
        have sG2:Stp (Mk m 340) w1 t1 w7 t7:=sG.drop fun k hk hS=>hS.resolve_right fun h=>by have:=hfr2 k hk;omega
        exact .inr ⟨by rw[HL1.out];go_num,t7,⟨gx,(hrX.keep s7 (by omega)),hXX.keep s7 (by omega)⟩,⟨gs,bt,LB,_,hBX.dN hs7 s7⟩,sB.trans sG2 fun _ h=>h⟩
       case measure=>rw[HL1.out];simp[intOf]
   ·exact absurd hmv (by simp)
  ·have hSo:=fun(A:Option Addr) (k c:Nat) (f:Value) (w:World) (hk:k<= 1)=>Xj A k c f w hk
   obtain⟨τ3,hτ3,hfr3⟩:=dW wr tr;have dn:decide ((n:Int)< (n:Int))=false:=by simp
   rcases fl with _| ⟨x,_| ⟨y,fl⟩⟩
   ·obtain rfl:u6=Value.slice none 0 0:=hFi
    go_wp2_with fail
    refine(hSo _ 0 0 _ _ (by omega)).mono ?_
    rintro e w7 ⟨rfl,rfl⟩;go_wp2_with fail
    go_loopw [10,76] (fun ov z w2=>z= .int .i64 0/\ ov= .slice none 0 0/\ wr=w2) (fun _ z _=>0)
    case atStart=>exact⟨rfl,rfl,rfl⟩
    case round=>
     obtain⟨rfl,rfl,rfl⟩:=hrel;go_wp2_with fail
     go_ret
     exact⟨_,rfl,τ3,tr,hτ3,RT.nil _ _ _ _ _,hK,sK⟩
   ·obtain⟨p,hr,hX⟩:=hFi
    obtain⟨A9,c9,rfl,-,-,-,-⟩:=hr.form;obtain⟨ga,o,cap,e1,hga,hma,hca⟩:=hr.at_ (by omega)
    injection e1 with e1 _ e2
    subst e1 e2;have y0:wr.cell? ⟨ga,o,none⟩=some (pV p):=(hca 0 (by omega)).1
    have x1:wr.cell? ⟨p,1,none⟩=some (.int .i64 x.what):=hX.b.cell 1;clear hca;go_wp2_with fail
    refine(hSo _ 1 c9 _ _ (by omega)).mono ?_
    rintro e w7 ⟨rfl,rfl⟩;go_wp2_with fail
    go_loopw [10,76] (fun ov z w2=>(z= .int .i64 0/\ ov= .slice none 0 0/\ wr=w2)\/ (z= .int .i64 1/\ ∃t2,RT w2 t2 τ3 3 1 ov 1 [.int .i64 x.what]/\ Stp (fun _=>False) wr tr w2 t2)) (fun _ z _=>1- (intOf z).toNat)
    case atStart=>exact .inl ⟨rfl,rfl,rfl⟩
    case round=>
     rcases hrel with⟨rfl,rfl,rfl⟩| ⟨rfl,t2,hr2,s2⟩
     ·have hN:=RT.nil wr tr τ3 3 1
      go_wp2_with (at_builtin;go_must (refine qy rfl (.tmp 80) (.tmp 85) 34 rfl 3 _ 1 8 Tryz.underlying34 rZ rfl tr τ3 (.slice none 0 0) 0 [] (by go_simp) hN [.int .i64 x.what] wr.heap.size rfl (by go_simp) rfl (by intro u hu;simp at hu;subst hu;rfl) (by decide) ?_;intro v' w5 t5 hr5 hs5;go_frame))
      go_roundw
      case rel=>exact .inr ⟨by go_num,t5,hr5,(hs5 (fun y=>y=τ3) rfl).drop fun k hk h=>by have:=hfr3 k hk;omega⟩
      case measure=>simp[intOf]
     ·go_wp2_with fail
      go_ret
      exact⟨_,rfl,τ3,t2,hτ3,hr2,hK.keep s2 fun _ _ h=>h,sK.trans s2 fun _ h=>h.elim⟩
   ·exact hFi.elim
theorem NI {T:TypeId} (W:World) (t:Nat-> Nat) (τ B:Nat) (u0 u1 u2 u3 u4 u5 u6 u7 u8 u9 u10 u11 u12 u13 u14 u15:Value) (hb:BT W t τ B T #[u0,u1,u2,u3,u4,u5,u6,u7,u8,u9,u10,u11,u12,u13,u14,u15]) (v0 v1 v2 v3 v4 v5 v6 v7 v8 v9 v10 v11 v12 v13 v14 v15:Value):
 ∃X,X=((((((((((((((((W.setCell ⟨B,0,none⟩ v0).setCell ⟨B,1,none⟩ v1).setCell ⟨B,2,none⟩ v2).setCell ⟨B,3,none⟩ v3).setCell ⟨B,4,none⟩ v4).setCell ⟨B,5,none⟩ v5).setCell ⟨B,6,none⟩ v6).setCell ⟨B,7,none⟩ v7).setCell ⟨B,8,none⟩ v8).setCell ⟨B,9,none⟩ v9).setCell ⟨B,10,none⟩ v10).setCell ⟨B,11,none⟩ v11).setCell ⟨B,12,none⟩ v12).setCell ⟨B,13,none⟩ v13).setCell ⟨B,14,none⟩ v14).setCell ⟨B,15,none⟩ v15)/\ BT X t τ B T #[v0,v1,v2,v3,v4,v5,v6,v7,v8,v9,v10,v11,v12,v13,v14,v15]/\ Stp (fun y=>y=τ) W t X t:=by
 obtain⟨m0,y0⟩:=hb.aH 0 v0;replace m0:=m0.to (show _= #[v0,u1,u2,u3,u4,u5,u6,u7,u8,u9,u10,u11,u12,u13,u14,u15]from rfl)
 obtain⟨m1,y1⟩:=m0.aH 1 v1;replace m1:=m1.to (show _= #[v0,v1,u2,u3,u4,u5,u6,u7,u8,u9,u10,u11,u12,u13,u14,u15]from rfl)
 obtain⟨m2,y2⟩:=m1.aH 2 v2;replace m2:=m2.to (show _= #[v0,v1,v2,u3,u4,u5,u6,u7,u8,u9,u10,u11,u12,u13,u14,u15]from rfl)
 obtain⟨m3,y3⟩:=m2.aH 3 v3;replace m3:=m3.to (show _= #[v0,v1,v2,v3,u4,u5,u6,u7,u8,u9,u10,u11,u12,u13,u14,u15]from rfl)
 obtain⟨m4,y4⟩:=m3.aH 4 v4;replace m4:=m4.to (show _= #[v0,v1,v2,v3,v4,u5,u6,u7,u8,u9,u10,u11,u12,u13,u14,u15]from rfl)
 obtain⟨m5,y5⟩:=m4.aH 5 v5;replace m5:=m5.to (show _= #[v0,v1,v2,v3,v4,v5,u6,u7,u8,u9,u10,u11,u12,u13,u14,u15]from rfl)
 obtain⟨m6,y6⟩:=m5.aH 6 v6;replace m6:=m6.to (show _= #[v0,v1,v2,v3,v4,v5,v6,u7,u8,u9,u10,u11,u12,u13,u14,u15]from rfl)
 obtain⟨m7,y7⟩:=m6.aH 7 v7;replace m7:=m7.to (show _= #[v0,v1,v2,v3,v4,v5,v6,v7,u8,u9,u10,u11,u12,u13,u14,u15]from rfl)
 obtain⟨m8,y8⟩:=m7.aH 8 v8;replace m8:=m8.to (show _= #[v0,v1,v2,v3,v4,v5,v6,v7,v8,u9,u10,u11,u12,u13,u14,u15]from rfl)
 obtain⟨m9,y9⟩:=m8.aH 9 v9;replace m9:=m9.to (show _= #[v0,v1,v2,v3,v4,v5,v6,v7,v8,v9,u10,u11,u12,u13,u14,u15]from rfl)
 obtain⟨m10,y10⟩:=m9.aH 10 v10;replace m10:=m10.to (show _= #[v0,v1,v2,v3,v4,v5,v6,v7,v8,v9,v10,u11,u12,u13,u14,u15]from rfl)
 obtain⟨m11,y11⟩:=m10.aH 11 v11;replace m11:=m11.to (show _= #[v0,v1,v2,v3,v4,v5,v6,v7,v8,v9,v10,v11,u12,u13,u14,u15]from rfl)
 obtain⟨m12,y12⟩:=m11.aH 12 v12;replace m12:=m12.to (show _= #[v0,v1,v2,v3,v4,v5,v6,v7,v8,v9,v10,v11,v12,u13,u14,u15]from rfl)
 obtain⟨m13,y13⟩:=m12.aH 13 v13;replace m13:=m13.to (show _= #[v0,v1,v2,v3,v4,v5,v6,v7,v8,v9,v10,v11,v12,v13,u14,u15]from rfl)
 obtain⟨m14,y14⟩:=m13.aH 14 v14;replace m14:=m14.to (show _= #[v0,v1,v2,v3,v4,v5,v6,v7,v8,v9,v10,v11,v12,v13,v14,u15]from rfl)
 obtain⟨m15,y15⟩:=m14.aH 15 v15;replace m15:=m15.to (show _= #[v0,v1,v2,v3,v4,v5,v6,v7,v8,v9,v10,v11,v12,v13,v14,v15]from rfl)
 exact⟨_,rfl,m15,(((((((((((((((y0.trans y1 fun _ h=>h).trans y2 fun _ h=>h).trans y3 fun _ h=>h).trans y4 fun _ h=>h).trans y5 fun _ h=>h).trans y6 fun _ h=>h).trans y7 fun _ h=>h).trans y8 fun _ h=>h).trans y9 fun _ h=>h).trans y10 fun _ h=>h).trans y11 fun _ h=>h).trans y12 fun _ h=>h).trans y13 fun _ h=>h).trans y14 fun _ h=>h).trans y15 fun _ h=>h)⟩
theorem RP (w:World) (t:Nat-> Nat):
 Calls Tryz.prog 14 #[] w fun e w'=> ∃A,e= .returned (.slice A 2 2)/\ ∃t',RT w' t' 6 99 3 (.slice A 2 2) 2 (tK.flatMap lK)/\ Stp (fun _=>False) w t w' t':=by
 go_enter Tryz.func14,Tryz.ntmps14
 go_wp2_with fail
 go_ret
 refine⟨_,rfl,upT t w 6,?_,Stp.alloc w t _ _ 6⟩;refine⟨by decide,.inr ⟨w.heap.size,0,2,(tK.flatMap lK).toArray,(0,0),rfl,iO (Nat.le_refl _),heap_alloc_new w _,.inl (Nat.le_refl _),Nat.le_refl _,by decide,by decide,rfl⟩⟩
theorem Fg (w:World) (t:Nat-> Nat):
 Calls Tryz.prog 5 #[] w fun e w'=> ∃A,e= .returned (.agg (cfC cf1 (.slice A 2 2)).toArray)/\ ∃t',RT w' t' 6 99 3 (.slice A 2 2) 2 (tK.flatMap lK)/\ Stp (fun _=>False) w t w' t':=by
 obtain⟨τ,hτ,hfr⟩:=dW w t;go_enter Tryz.func5,Tryz.ntmps5
 go_upto_region 1 with(fail)
 have z1:=Stp.alloc w t (fun _=>False) (.cells #[.int .i64 0,.int .i64 0,.int .i64 0,.int .i64 0,.int .i64 0,.int .i64 0,.int .i64 0,.int .i64 0,.int .i64 0,.int .i64 0,.int .i64 0,.int .i64 0,.int .i64 0,.bool false,.bool false,.slice none 0 0] 25) τ
 have b1:=BT.new' w t τ w.heap.size rfl 25 #[.int .i64 0,.int .i64 0,.int .i64 0,.int .i64 0,.int .i64 0,.int .i64 0,.int .i64 0,.int .i64 0,.int .i64 0,.int .i64 0,.int .i64 0,.int .i64 0,.int .i64 0,.bool false,.bool false,.slice none 0 0];obtain⟨W1,hW1⟩: ∃W,W=w.alloc (.cells #[.int .i64 0,.int .i64 0,.int .i64 0,.int .i64 0,.int .i64 0,.int .i64 0,.int .i64 0,.int .i64 0,.int .i64 0,.int .i64 0,.int .i64 0,.int .i64 0,.int .i64 0,.bool false,.bool false,.slice none 0 0] 25):=⟨_,rfl⟩;obtain⟨t1,ht1⟩: ∃y,y=upT t w τ:=⟨_,rfl⟩;obtain⟨B,hB⟩: ∃y,y=w.heap.size:=⟨_,rfl⟩;rw[<- hW1,<- ht1]at z1 b1;rw[<- hB]at b1⊢;rw[<- hW1];clear hW1 ht1 hB;have hT:=RP W1 t1;go_wp2_with fail
 refine hT.mono ?_;rintro e w2 ⟨A,rfl,t2,hr2,s2⟩;have b2:=b1.keep s2 id;have fa0:w2.frozen? ⟨B,0,none⟩=false:=b2.b.frozen 0;have ca0:w2.cell? ⟨B,0,none⟩=some (.int .i64 0):=b2.b.cell 0;have fa1:w2.frozen? ⟨B,1,none⟩=false:=b2.b.frozen 1;have ca1:w2.cell? ⟨B,1,none⟩=some (.int .i64 0):=b2.b.cell 1;have fa2:w2.frozen? ⟨B,2,none⟩=false:=b2.b.frozen 2;have ca2:w2.cell? ⟨B,2,none⟩=some (.int .i64 0):=b2.b.cell 2;have fa3:w2.frozen? ⟨B,3,none⟩=false:=b2.b.frozen 3;have ca3:w2.cell? ⟨B,3,none⟩=some (.int .i64 0):=b2.b.cell 3;have fa4:w2.frozen? ⟨B,4,none⟩=false:=b2.b.frozen 4;have ca4:w2.cell? ⟨B,4,none⟩=some (.int .i64 0):=b2.b.cell 4;have fa5:w2.frozen? ⟨B,5,none⟩=false:=b2.b.frozen 5;have ca5:w2.cell? ⟨B,5,none⟩=some (.int .i64 0):=b2.b.cell 5;have fa6:w2.frozen? ⟨B,6,none⟩=false:=b2.b.frozen 6;have ca6:w2.cell? ⟨B,6,none⟩=some (.int .i64 0):=b2.b.cell 6;have fa7:w2.frozen? ⟨B,7,none⟩=false:=b2.b.frozen 7;have ca7:w2.cell? ⟨B,7,none⟩=some (.int .i64 0):=b2.b.cell 7;have fa8:w2.frozen? ⟨B,8,none⟩=false:=b2.b.frozen 8;have ca8:w2.cell? ⟨B,8,none⟩=some (.int .i64 0):=b2.b.cell 8;have fa9:w2.frozen? ⟨B,9,none⟩=false:=b2.b.frozen 9;have ca9:w2.cell? ⟨B,9,none⟩=some (.int .i64 0):=b2.b.cell 9;have fa10:w2.frozen? ⟨B,10,none⟩=false:=b2.b.frozen 10;have ca10:w2.cell? ⟨B,10,none⟩=some (.int .i64 0):=b2.b.cell 10;have fa11:w2.frozen? ⟨B,11,none⟩=false:=b2.b.frozen 11;have ca11:w2.cell? ⟨B,11,none⟩=some (.int .i64 0):=b2.b.cell 11;have fa12:w2.frozen? ⟨B,12,none⟩=false:=b2.b.frozen 12;have ca12:w2.cell? ⟨B,12,none⟩=some (.int .i64 0):=b2.b.cell 12;have fa13:w2.frozen? ⟨B,13,none⟩=false:=b2.b.frozen 13;have ca13:w2.cell? ⟨B,13,none⟩=some (.bool false):=b2.b.cell 13;have fa14:w2.frozen? ⟨B,14,none⟩=false:=b2.b.frozen 14;have ca14:w2.cell? ⟨B,14,none⟩=some (.bool false):=b2.b.cell 14;have fa15:w2.frozen? ⟨B,15,none⟩=false:=b2.b.frozen 15;have ca15:w2.cell? ⟨B,15,none⟩=some (.slice none 0 0):=b2.b.cell 15;obtain⟨X,hX,bX,zX⟩:=NI w2 t2 τ B _ _ _ _ _ _ _ _ _ _ _ _ _ _ _ _ b2 (.int .i64 4) (.int .i64 4) (.int .i64 2) (.int .i64 4) (.int .i64 50) (.int .i64 20) (.int .i64 30) (.int .i64 40) (.int .i64 10) (.int .i64 0) (.int .i64 0) (.int .i64 2) (.int .i64 16) (.bool false) (.bool false) (.slice A 2 2);have HX:=Lib.hid hX;clear hX;have rX:=hr2.keep zX (by omega)
 have sX:=(((z1.trans s2 fun _ h=>h).mono (S':=fun y=>y=τ) fun _ h=>h.elim).trans zX fun _ h=>h).drop (S':=fun _=>False) fun k hk (hS:t k=τ)=>by have:=hfr k hk;omega
 have r0:X.cell? ⟨B,0,none⟩=some (.int .i64 4):=bX.b.cell 0;have r1:X.cell? ⟨B,1,none⟩=some (.int .i64 4):=bX.b.cell 1;have r2:X.cell? ⟨B,2,none⟩=some (.int .i64 2):=bX.b.cell 2;have r3:X.cell? ⟨B,3,none⟩=some (.int .i64 4):=bX.b.cell 3;have r4:X.cell? ⟨B,4,none⟩=some (.int .i64 50):=bX.b.cell 4;have r5:X.cell? ⟨B,5,none⟩=some (.int .i64 20):=bX.b.cell 5;have r6:X.cell? ⟨B,6,none⟩=some (.int .i64 30):=bX.b.cell 6;have r7:X.cell? ⟨B,7,none⟩=some (.int .i64 40):=bX.b.cell 7;have r8:X.cell? ⟨B,8,none⟩=some (.int .i64 10):=bX.b.cell 8;have r9:X.cell? ⟨B,9,none⟩=some (.int .i64 0):=bX.b.cell 9;have r10:X.cell? ⟨B,10,none⟩=some (.int .i64 0):=bX.b.cell 10;have r11:X.cell? ⟨B,11,none⟩=some (.int .i64 2):=bX.b.cell 11;have r12:X.cell? ⟨B,12,none⟩=some (.int .i64 16):=bX.b.cell 12;have r13:X.cell? ⟨B,13,none⟩=some (.bool false):=bX.b.cell 13;have r14:X.cell? ⟨B,14,none⟩=some (.bool false):=bX.b.cell 14;have r15:X.cell? ⟨B,15,none⟩=some (.slice A 2 2):=bX.b.cell 15;go_wp2_with fail
 rw[<- HX.out];refine bodyPost_ret (v:=.agg (cfC cf1 (.slice A 2 2)).toArray) ?_ rfl ⟨A,rfl,t2,rX,sX⟩;simp[results,Tryz.results5,go_sem,r0,r1,r2,r3,r4,r5,r6,r7,r8,r9,r10,r11,r12,r13,r14,r15];exact⟨rfl,rfl,rfl,rfl,rfl,rfl,rfl,rfl,rfl,rfl,rfl,rfl,rfl,rfl,rfl⟩
theorem Fh (w:World) (t:Nat-> Nat) (cf:Cf) (tab:List En) (A:Option Addr) (c:Nat) (hg:GL w t) (hc:GY cf) (hT:J3 tab) (hr:RT w t 6 99 3 (.slice A tab.length c) tab.length (tab.flatMap lK)) (hA:0<tab.length):
 Calls Tryz.prog 6 #[.agg (cfC cf (.slice A tab.length c)).toArray] w fun e w'=> ∃gw,e= .returned (.tuple #[pV gw,.bool true])/\ ∃t',gQ w' t' gw (Ci cf tab)/\ Stp SW w t w' t':=by
 go_enter Tryz.func6,Tryz.ntmps6
 go_upto_region 1 with(fail)
 have z1:=Stp.alloc w t (fun _=>False) (.cells (cfC cf (.slice A tab.length c)).toArray 25) 9
 have b1:=BT.new' w t 9 w.heap.size rfl 25 (cfC cf (.slice A tab.length c)).toArray;obtain⟨W1,hW1⟩: ∃W,W=w.alloc (.cells (cfC cf (.slice A tab.length c)).toArray 25):=⟨_,rfl⟩;obtain⟨t1,ht1⟩: ∃y,y=upT t w 9:=⟨_,rfl⟩;obtain⟨B,hB⟩: ∃y,y=w.heap.size:=⟨_,rfl⟩;rw[<- hW1,<- ht1]at z1 b1;rw[<- hB]at b1⊢;rw[<- hW1];clear hW1 ht1 hB;have k0:W1.cell? ⟨B,0,none⟩=some (nV cf.jE):=b1.b.cell 0;have k1:W1.cell? ⟨B,1,none⟩=some (nV cf.jF):=b1.b.cell 1;have k2:W1.cell? ⟨B,2,none⟩=some (nV cf.pipe):=b1.b.cell 2;have k3:W1.cell? ⟨B,3,none⟩=some (nV cf.jg):=b1.b.cell 3;have k4:W1.cell? ⟨B,4,none⟩=some (nV cf.idle):=b1.b.cell 4;have k5:W1.cell? ⟨B,5,none⟩=some (nV cf.head):=b1.b.cell 5;have k6:W1.cell? ⟨B,6,none⟩=some (nV cf.body):=b1.b.cell 6;have k7:W1.cell? ⟨B,7,none⟩=some (nV cf.write):=b1.b.cell 7;have k8:W1.cell? ⟨B,8,none⟩=some (nV cf.bC):=b1.b.cell 8;have k9:W1.cell? ⟨B,9,none⟩=some (nV cf.jR):=b1.b.cell 9;have k10:W1.cell? ⟨B,10,none⟩=some (nV cf.gJ):=b1.b.cell 10;have k11:W1.cell? ⟨B,11,none⟩=some (nV cf.base):=b1.b.cell 11;have k12:W1.cell? ⟨B,12,none⟩=some (nV cf.cap):=b1.b.cell 12;have k13:W1.cell? ⟨B,13,none⟩=some (.bool cf.refuse):=b1.b.cell 13;have k14:W1.cell? ⟨B,14,none⟩=some (.bool cf.dV):=b1.b.cell 14;have k15:W1.cell? ⟨B,15,none⟩=some (.slice A tab.length c):=b1.b.cell 15;have hN:=Zr W1 t1 cf tab A c (hg.keep z1 id) hc hT (hr.keep z1 id) hA;go_wp2_with fail
 refine hN.mono ?_;rintro e w2 ⟨gw,rfl,t2,hw2,s2⟩;obtain⟨g,P,hb⟩:=hw2;have j0:w2.cell? ⟨gw,0,none⟩=some (pV g):=hb.b.b.cell 0;have hWi:=J9 w2 t2 gw _ g P hb;go_wp2_with fail
 refine hWi.mono ?_;rintro e w3 ⟨rfl,rfl⟩;go_wp2_with fail
 go_ret2
 exact⟨gw,rfl,t2,⟨g,P,hb⟩,(z1.mono (S':=SW) fun _ h=>h.elim).trans s2 fun _ h=>h⟩
end Go.Proofs.YtdmondfpepbniaaGreatDoor
