/- Part 14 of the proof: RfA. -/
import Derived.Test.YtdmondfpepbniaaGreatDoorQ13
namespace Go.Proofs.YtdmondfpepbniaaGreatDoor
open Go.RowKit
set_option maxRecDepth 100000
set_option maxHeartbeats 4000000
set_option linter.all false
theorem qP: ∀(T r t:Bs),aK T r= .ok () t-> r=T++t
 | [],r,t,h=>by rw[aK]at h;cases h;rfl
 |c::T,[],t,h=>by cases h
 |c::T,d::r,t,h=>by
  rw[uO]at h;split at h
  ·rename_i hd
   rw[qP T r t h,hd];rfl
  ·cases h
theorem Jl (ours:List Bs) (nf:Nat) (r s t:Bs) (h:jQ ours nf r= .ok s t):t.length<= r.length:=by
 unfold jQ at h;split at h
 ·split at h<;>cases h
 ·split at h
  ·cases h;exact Nat.le_refl _
  ·split at h
   ·cases h
   ·cases hx:aK csB (r.dropWhile tkB)with
    |short=>rw[hx]at h;cases h
    |bad=>rw[hx]at h;cases h
    |ok u t'=>
     rw[hx]at h;cases h
     have h1:=congrArg List.length (qP _ _ _ hx);have h2:=(List.dropWhile_sublist tkB (l:=r)).length_le;rw[List.length_append]at h1;omega
theorem Og (r v t:Bs) (h:lI r= .ok v t):t.length+2<= r.length:=by
 unfold lI at h;split at h
 ·cases h
 ·split at h
  ·cases h
  ·split at h
   ·cases h
   ·cases hx:aK crlf (r.dropWhile vlB)with
    |short=>rw[hx]at h;cases h
    |bad=>rw[hx]at h;cases h
    |ok u t'=>
     rw[hx]at h;cases h
     have h1:=congrArg List.length (qP _ _ _ hx);have h2:=(List.dropWhile_sublist vlB (l:=r)).length_le;rw[List.length_append,show crlf.length=2 from rfl]at h1
     omega
theorem Blk.ne {w:World} {g h:Nat} {T T':TypeId} {cs cs':Array Value} (a:Blk w g T cs) (b:Blk w h T' cs') (hT:T≠T'):g≠h:=by
 rintro rfl;unfold Blk at a b;rw[a]at b;simp at b;exact hT b.2
theorem Rd.ZH {w:World} {h:Nat} {T:TypeId} {cs:List Value} {n size:Nat} (b:Blk w h T cs.toArray) (hl:cs.length=n*size):Rd w w.heap.size size (some ⟨h,0,none⟩) n cs:=
 ⟨hl,fun _=>⟨h,0,rfl,b.lt,fun j u hu=>by rw[Nat.zero_add,b.cell];simpa using hu⟩⟩
theorem Blk.frA {w w':World} {g h:Nat} {T:TypeId} {cs:Array Value} (b:Blk w h T cs) (F:FrA g w w') (hne:h≠g):Blk w' h T cs:=b.fr F.fr hne
theorem FrA.same {w w':World} {g:Nat} {P P':Bs} {hd hd':Bool} {x x':RPl} {k k':Nat} {s s':RSt} (F:FrA g w w') (q:RM w g P hd x k s) (q':RM w' g P' hd' x' k' s'):x'.vf=x.vf:=by
 obtain⟨-,-,-,-,h,-⟩:=q.c8;obtain⟨-,-,-,-,h',-⟩:=q'.c8;rw[F.cl 4 (by decide),h]at h'
 exact(Option.some.inj h').symm
theorem Md (n:Nat) (fs:List Fd):eP true (n+1) fs []= .short:=by rw[eP,if_pos ⟨rfl,rfl⟩]
theorem Ve (n:Nat) (fs:List Fd) (r:Bs):eP true (n+1) fs (13::r)= .ok (fs,[]) (13::r):=by rw[eP,if_neg (by simp),if_pos ⟨rfl,rfl⟩]
theorem Oh (nb:Bool) (n:Nat) (fs:List Fd) (r:Bs) (h:nb=false\/ ∃c t,r=c::t/\ c≠13):eP nb (n+1) fs r=(jQ (vS nb) fs.length r).bind fun s t=>if lH s then .ok (fs,s) t else(lI t).bind fun v t=>eP nb n (fs++ [(s,v)]) t:=by
 rw[eP,if_neg,if_neg]
 ·rintro⟨rfl,h2⟩
  rcases h with h| ⟨c,t,rfl,hc⟩
  ·cases h
  ·simp at h2;exact hc h2
 ·rintro⟨rfl,rfl⟩
  rcases h with h| ⟨c,t,h,hc⟩
  ·cases h
  ·cases h
theorem Em (ours:List Bs) (nf:Nat) (r s t:Bs) (h:jQ ours nf r= .ok s t):s.length<= r.length:=by
 have hs:s=r.takeWhile tkB:=by
  unfold jQ at h;split at h
  ·split at h<;>cases h
  ·split at h
   ·cases h;rfl
   ·split at h
    ·cases h
    ·cases hx:aK csB (r.dropWhile tkB)with
     |short=>rw[hx]at h;cases h
     |bad=>rw[hx]at h;cases h
     |ok u t'=>rw[hx]at h;cases h;rfl
 rw[hs];exact(List.takeWhile_sublist tkB).length_le
theorem Eo (ours:List Bs) (nf:Nat) (r s t:Bs) (h:jQ ours nf r= .ok s t) (ho:lH s=false) (hall: ∀o∈ours,lH o=true):nf<24:=by
 unfold jQ at h;split at h
 ·split at h<;>cases h
 ·split at h
  ·rename_i hc
   cases h
   rw[List.contains_iff_mem]at hc;rw[hall _ hc]at ho;cases ho
  ·split at h
   ·cases h
   ·rename_i hc
    simp at hc;omega
theorem Jm (r v t:Bs) (h:lI r= .ok v t):v.length<= r.length:=by
 have hs:v=r.takeWhile vlB:=by
  unfold lI at h;split at h
  ·cases h
  ·split at h
   ·cases h
   ·split at h
    ·cases h
    ·cases hx:aK crlf (r.dropWhile vlB)with
     |short=>rw[hx]at h;cases h
     |bad=>rw[hx]at h;cases h
     |ok u t'=>rw[hx]at h;cases h;rfl
 rw[hs];exact(List.takeWhile_sublist vlB).length_le
theorem Vf (nb:Bool): ∀o∈vS nb,lH o=true:=by
 cases nb<;>decide
theorem Blk.own_ne {w:World} {h:Nat} {T e:TypeId} {cs:Array Value} {base size n:Nat} {v:Value} {xs:List Value} (b:Blk w h T cs) (o:Own w base e size v n xs) (hT:T≠e):v.ownBlock≠some h:=by
 intro hv;rcases o.2 with⟨rfl,-⟩| ⟨g,cap,cur,fr,rfl,-,hg,-⟩
 ·cases hv
 ·simp[Value.ownBlock]at hv
  subst hv;unfold Blk at b;rw[b]at hg;simp at hg;exact hT hg.2.1
theorem yJ {w:World} {g:Nat} {P:Bs} {hd:Bool} {x:RPl} {k:Nat} {s:RSt} {v t:Bs} (q:RM w g P hd x k s) (hP:P.length<= 1000000) (hv:lI s.r= .ok v t):
 Calls Tryz.prog 162 #[.pointer (some ⟨g,0,none⟩)] w fun e w'=>e= .returned (sv v)/\ (∃x2 k2,RM w' g P hd x2 k2 { s with r:=t } /\ x2.vf=x.vf)/\ FrA g w w':=by
 refine(Jk ⟨x,k,q⟩ hP).mono ?_;rintro e w' ⟨h,F⟩;rw[hv]at h;obtain⟨-,rfl,x2,k2,q2⟩:=h;exact⟨rfl,⟨x2,k2,q2,F.same q q2⟩,F⟩
theorem yK {w:World} {g:Nat} {P:Bs} {hd:Bool} {x:RPl} {k:Nat} {s:RSt} (q:RM w g P hd x k s) (hP:P.length<= 1000000):
 (lI s.r= .short-> Calls Tryz.prog 162 #[.pointer (some ⟨g,0,none⟩)] w fun e w'=>e= .panicked (pK 12)/\ Below g w w')/\
 (lI s.r= .bad-> Calls Tryz.prog 162 #[.pointer (some ⟨g,0,none⟩)] w fun e w'=>e= .panicked (pK 8)/\ Below g w w'):=by
 constructor<;>intro hv<;>refine(Jk ⟨x,k,q⟩ hP).mono ?_<;>rintro e w' ⟨h,F⟩<;>rw[hv]at h<;>exact⟨h.2,h.1⟩
theorem RM.field {w1 w3:World} {g:Nat} {P:Bs} {hd:Bool} {x x2:RPl} {k2:Nat} {s:RSt} {fd:Fd} {v':Value} (q2:RM w1 g P hd x2 k2 s) (hx2:x2.vf=x.vf) (hx3:Ext w1 w3 x.vf v') (ho3:OF w3 (g+1) v' (s.f++ [fd])) (hf:s.f.length<24):
 RM (w3.setCell ⟨g,4,none⟩ v') g P hd { x2 with vf:=v' } k2 { s with f:=s.f++ [fd] } :=by
 rw[<- hx2]at hx3;refine RM.of ((q2.rk.extF hx3 ho3).ay 4 v') (by simp[jH]) q2.cap q2.at_ q2.rest ?_ q2.nd q2.nq q2.st0
 simp only[List.length_append,List.length_singleton];omega
def FieldsP (w:World) (g:Nat) (P:Bs) (hd:Bool) (s:RSt) (x:R3 (List Fd×Bs)) (e:Ending) (w':World):Prop:=
 kK w g P hd x (fun a=>sv a.2) (fun a r=> { s with r:=r,f:=a.1 }) e w'
theorem Qm {w:World} {g:Nat} {P:Bs} {hd:Bool} {s:RSt} (q:RdT w g P hd s) (hP:P.length<= 1000000) (hf:s.f= []):
 Calls Tryz.prog 101 #[.pointer (some ⟨g,0,none⟩)] w (FieldsP w g P hd s (eP (bW s.st) (s.r.length+1) [] s.r)):=by
 have hgl:=q.lt;obtain⟨x,k,q⟩:=q;obtain⟨-,-,-,j3,-⟩:=q.c8;have hnb:=fun w=>jy s.st w
 have hst:=s.st;have q00:RM w g P hd x k { s with f:= [] } :=by rw[<- hf];exact q
 have hRel: ∀nb,bW s.st=nb-> True:=fun _ _=>trivial
 clear hRel;have hnm:=fun(A:Option Addr) (n c:Nat) (fs:List Fd) (r:Bs) (w:World) (q:RdT w g P hd { s with r:=r,f:=fs }) (hA:Rd w w.heap.size 1 A n ((vS (bW s.st)).map tv)) (hne: ∀b o,A=some ⟨b,o,none⟩-> b≠g) (hn:n<= 2)=>YE A n c (vS (bW s.st)) q hP hA hne hn
 obtain⟨N,hN⟩: ∃N,N=s.r.length+1:=⟨_,rfl⟩;rw[<- hN];have HN:=Lib.hid hN;clear hN;have hoo:=Vf (bW s.st);have HOO:=Lib.hid hoo;clear hoo;have a1:Blk (w.alloc (.cells #[tv teN,tv clN] 9)) w.heap.size 9 #[tv teN,tv clN]:=Blk.new w _ _;have a2:Blk ((w.alloc (.cells #[tv teN,tv clN] 9)).alloc (.cells #[tv coN] 9)) (w.heap.size+1) 9 #[tv coN]:=Blk.new' _ _ (by simp) _ _
 have b1:Below w.heap.size w (w.alloc (.cells #[tv teN,tv clN] 9)):=aj (Below.refl _ _) _;have b2:Below w.heap.size w ((w.alloc (.cells #[tv teN,tv clN] 9)).alloc (.cells #[tv coN] 9)):=aj b1 _;obtain⟨W1,hW1⟩: ∃V,V=w.alloc (.cells #[tv teN,tv clN] 9):=⟨_,rfl⟩;obtain⟨W2,hW2⟩: ∃V,V=(w.alloc (.cells #[tv teN,tv clN] 9)).alloc (.cells #[tv coN] 9):=⟨_,rfl⟩;rw[<- hW1]at a1 b1;rw[<- hW2]at a2 b2;have HB:=Lib.hid (show bW s.st=false\/ bW s.st=true by cases bW s.st<;>simp)
 generalize bW s.st=nb at*;rcases HB.out with rfl|rfl
 ·go_enter Tryz.func101,Tryz.ntmps101
  go_wp2_with fail
  refine(hnb _).mono ?_;rintro e w1 ⟨rfl,rfl⟩;rw[show w.alloc (.cells #[Value.string ⟨#[84,114,97,110,115,102,101,114,45,69,110,99,111,100,105,110,103]⟩,Value.string ⟨#[67,111,110,116,101,110,116,45,76,101,110,103,116,104]⟩] 9)=W1 from hW1.symm]
  clear hW1 hW2 a2 b2;go_wp2_with fail
  obtain⟨h,hh⟩: ∃h,h=w.heap.size:=⟨_,rfl⟩;rw[<- hh]at a1⊢;clear hh
  go_loopg [] N (fun gk wr=> ∃(fs:List Fd) (r:Bs),r.length<gk/\ Hid (eP false N [] s.r=eP false gk fs r)/\ RdT wr g P hd { s with r:=r,f:=fs } /\ Below g w wr/\ Blk wr h 9 ((vS false).map tv).toArray)
  case atStart=>exact⟨[],s.r,by rw[HN.out];exact Nat.lt_succ_self _,rfl,⟨x,k,q00.ah b1⟩,b1.mono (Nat.le_of_lt hgl),a1⟩
  case round=>
   obtain⟨fs,r,hr,HF,⟨x1,k1,q1⟩,hb,BO⟩:=hrel;obtain⟨m,rfl⟩: ∃m,gk=m+1:=⟨gk-1,by omega⟩
   have hhg:h≠g:=BO.ne q1.blk (by decide)
   have hname:=fun(m:Nat)=>hnm (some ⟨h,0,none⟩) 2 2 fs r (wr.drewN m) ⟨x1,k1,q1.drewN m⟩ (Rd.ZH (BO.drewN m) rfl) (by rintro b o e;injection e with e;injection e with e;rw[<- e];exact hhg) (by decide)
   obtain⟨-,-,-,c3,-⟩:=q1.c8;have hgr:g<wr.heap.size:=q1.lt;have hrP:r.length<= 1000000:=by have:=q1.at_;simp only[]at this;omega
   have HG:=Lib.hid (HF.out.trans (Oh false m fs r (.inl rfl)));have hname':=hname 0;have hbm:Below g w wr:=hb;have BOm:=BO;clear hname;go_wp2_with fail
   refine(hnb _).mono ?_;rintro e w2 ⟨rfl,rfl⟩;go_wp2_with fail
   refine hname'.mono ?_;rintro e w3 ⟨h3,F3⟩;have hb3:Below g w w3:=hbm.trans (aY (Nat.le_of_lt hgr) F3);have BO3:=BOm.frA F3 hhg;have hg3:g<w3.heap.size:=Nat.lt_of_lt_of_le hgr F3.fr.size;rcases aN h3 with⟨hx,rfl,L⟩| ⟨hx,rfl,L⟩| ⟨s1,t1,hx,rfl,⟨x3,k3,q3⟩,L⟩
   ·exact⟨rfl,aA (by rw[HG.out,hx.out];rfl) hb3⟩
   ·exact⟨rfl,aC (by rw[HG.out,hx.out];rfl) hb3⟩
   ·have hs1:s1.length<= 1000000:=Nat.le_trans (Em _ _ _ _ _ hx.out) hrP
    have ht1:=Jl _ _ _ _ _ hx.out;have hroom:=Eo _ _ _ _ _ hx.out;have HR:=Lib.hid (fun h=>hroom h HOO.out)
    have HG2:=Lib.hid (show eP false N [] s.r=if lH s1 then .ok (fs,s1) t1 else(lI t1).bind fun v t=>eP false m (fs++ [(s1,v)]) t by rw[HG.out,hx.out];rfl)
    have hown:=fun w=>oL s1 w hs1
    clear HG hx hroom hname' HF h3 c3;generalize lH s1=o1 at*;cases o1
    ·have hfr:fs.length<24:=HR.out rfl
     go_wp2_with fail
     refine(hown w3).mono ?_;rintro e w4 ⟨rfl,L4⟩;have hb4:Below g w w4:=hb3.trans (L4.mono (Nat.le_of_lt hg3));have BO4:=BO3.ah L4;have q4:=q3.ah L4;obtain⟨-,-,-,-,d4,-,-,-,-,-,-,-,e4,-⟩:=q4.c8;obtain⟨Av,cv,hvf,-,-,-⟩:=q4.of_.form;rw[hvf]at d4;have HVF:=Lib.hid hvf;have hvn:=yK q4.drew hP;have hvk:=fun(v t:Bs)=>yJ (v:=v) (t:=t) q4.drew hP
     clear hvf L4 BO3 q3 hb3 hown HR;rcases hv:lI t1 with _|_| ⟨v,t2⟩
     ·have hc:=hvn.1 hv
      have HE:=Lib.hid (show eP false N [] s.r= .short by rw[HG2.out,hv];rfl)
      have hbd: ∀w5,Below g w4.drew w5-> Below g w w5:=fun w5 L=>Below.trans (Below.drew hb4) L
      clear hv hvn hvk;go_wp2_with fail
      go_region_dies
      all_goals (refine hc.mono ?_;rintro e w5 ⟨rfl,L5⟩;go_simp;exact⟨rfl,aA HE.out (hbd _ L5)⟩)
     ·have hc:=hvn.2 hv
      have HE:=Lib.hid (show eP false N [] s.r= .bad by rw[HG2.out,hv];rfl)
      have hbd: ∀w5,Below g w4.drew w5-> Below g w w5:=fun w5 L=>Below.trans (Below.drew hb4) L
      clear hv hvn hvk;go_wp2_with fail
      go_region_dies
      all_goals (refine hc.mono ?_;rintro e w5 ⟨rfl,L5⟩;go_simp;exact⟨rfl,aC HE.out (hbd _ L5)⟩)
     ·have hc:=hvk v t2 hv
      have HE:=Lib.hid (show eP false N [] s.r=eP false m (fs++ [(s1,v)]) t2 by rw[HG2.out,hv];rfl)
      have hvl:=Og _ _ _ hv;have hvs:v.length<= 1000000:=Nat.le_trans (Jm _ _ _ hv) (by omega)
      have hg4:g<w4.heap.size:=q4.lt;clear hv hvn hvk HG2 hhg;go_wp2_with fail
      go_region_law (first| (go_simp;go_at_call 162;refine hc.mono ?_;rintro e w5 ⟨rfl,⟨x5,k5,q5,hx5⟩,F5⟩;have c4:=(F5.cl 4 (by decide)).trans d4;have ho5:=q5.of_;rw[hx5,HVF.out]at ho5;have HX5:=Lib.hid hx5;have hg5:g<w5.heap.size:=q5.lt;have hg6: ¬g=w5.heap.size:=Nat.ne_of_lt q5.lt;clear hx5)| (refine rF rfl (.tmp 35) (.tmp 40) rfl (g+1) (.slice Av fs.length cv) fs rfl ho5 (aj (Below.refl _ _) _) _ 1 1 (w5.heap.size+1) rfl [(s1,v)] rfl (Rd.new w5 _ rfl [sv s1,sv v] _ 1 2 rfl) (by simp;omega) q5.lt ?_;intro v' w6 ho6 hx6;obtain⟨A6,c6,hv6,-,-,-⟩:=ho6.form;rw[show(fs++ [(s1,v)]).length=fs.length+1 by simp]at hv6;subst hv6;have B6:=q5.blk.fr hx6.fr (fun e=>by have:=(ho5.lt _ e).1;omega);obtain⟨-,-,-,-,z4,-,-,-,-,-,-,-,y4,-⟩:=Blk.c8 B6;clear B6))
      all_goals
       have HX:=HX5.out;rw[<- HVF.out]at hx6;have q7:=RM.field q5 HX hx6 ho6 hfr;have BO5:=BO4.drew.frA F5 (BO4.ne q4.blk (by decide))
       have BO7:Blk (w6.setCell ⟨g,4,none⟩ (.slice A6 (fs.length+1) c6)) h 9 ((vS false).map tv).toArray:=by
        refine Blk.far (BO5.fr hx6.fr ?_) (BO5.ne q5.blk (by decide)) _
        rw[HVF.out];exact BO5.own_ne ho5 (by decide)
       have hb7:Below g w (w6.setCell ⟨g,4,none⟩ (.slice A6 (fs.length+1) c6)):=by
        refine Below.setCell (((Below.drew hb4).trans (aY (Nat.le_of_lt hg4) F5)).trans ?_) (Nat.le_refl _) _;rw[HVF.out]at hx6;exact hx6.below ho5 (Nat.le_succ g) (Nat.le_of_lt hg5)
       go_wp2
       go_roundg m
       case rel=>exact⟨fs++ [(s1,v)],t2,by omega,HE,⟨_,k5,q7⟩,hb7,BO7⟩
       case measure=>omega
    ·go_wp2_with fail
     refine(hown w3).mono ?_;rintro e w4 ⟨rfl,L4⟩;go_wp2
     go_ret
     exact bM HG2.out rfl (hb3.trans (L4.mono (Nat.le_of_lt hg3))) ⟨x3,k3,q3.ah L4⟩
 ·go_enter Tryz.func101,Tryz.ntmps101
  go_wp2_with fail
  refine(hnb _).mono ?_;rintro e w1 ⟨rfl,rfl⟩;go_wp2_with fail
  rw[show(w.alloc (.cells #[Value.string ⟨#[84,114,97,110,115,102,101,114,45,69,110,99,111,100,105,110,103]⟩,Value.string ⟨#[67,111,110,116,101,110,116,45,76,101,110,103,116,104]⟩] 9)).alloc (.cells #[Value.string ⟨#[67,111,110,110,101,99,116,105,111,110]⟩] 9)=W2 from hW2.symm]
  clear hW1 hW2 a1 b1;obtain⟨h,hh⟩: ∃h,h=w.heap.size+1:=⟨_,rfl⟩;rw[<- hh]at a2⊢;clear hh
  go_loopg [] N (fun gk wr=> ∃(fs:List Fd) (r:Bs),r.length<gk/\ Hid (eP true N [] s.r=eP true gk fs r)/\ RdT wr g P hd { s with r:=r,f:=fs } /\ Below g w wr/\ Blk wr h 9 ((vS true).map tv).toArray)
  case atStart=>exact⟨[],s.r,by rw[HN.out];exact Nat.lt_succ_self _,rfl,⟨x,k,q00.ah b2⟩,b2.mono (Nat.le_of_lt hgl),a2⟩
  case round=>
   obtain⟨fs,r,hr,HF,⟨x1,k1,q1⟩,hb,BO⟩:=hrel;obtain⟨m,rfl⟩: ∃m,gk=m+1:=⟨gk-1,by omega⟩
   have hhg:h≠g:=BO.ne q1.blk (by decide)
   have hname:=fun(m:Nat)=>hnm (some ⟨h,0,none⟩) 1 1 fs r (wr.drewN m) ⟨x1,k1,q1.drewN m⟩ (Rd.ZH (BO.drewN m) rfl) (by rintro b o e;injection e with e;injection e with e;rw[<- e];exact hhg) (by decide)
   obtain⟨-,-,-,c3,-⟩:=q1.c8;have hgr:g<wr.heap.size:=q1.lt;have hrP:r.length<= 1000000:=by have:=q1.at_;simp only[]at this;omega
   have hnx:=oU q1 hP;rcases r with _| ⟨c,r⟩
   ·have HE:=Lib.hid (HF.out.trans (Md m fs))
    go_wp2_with fail
    refine(hnb _).mono ?_;rintro e w2 ⟨rfl,rfl⟩;go_wp2_with fail
    refine hnx.mono ?_;rintro e w3 ⟨rfl,mm,rfl⟩;exact⟨rfl,aA HE.out (below_drewN' hb mm)⟩
   ·by_cases hc13:c=13
    ·subst hc13
     have HE:=Lib.hid (HF.out.trans (Ve m fs r));go_wp2_with fail
     refine(hnb _).mono ?_;rintro e w2 ⟨rfl,rfl⟩;go_wp2_with fail
     refine hnx.mono ?_;rintro e w3 ⟨rfl,mm,rfl⟩;go_wp2
     go_ret
     exact bM HE.out rfl (below_drewN' hb mm) ⟨x1,k1,q1.drewN mm⟩
    ·have HG:=Lib.hid (HF.out.trans (Oh true m fs (c::r) (.inr ⟨c,r,rfl,hc13⟩)))
     have hcb:=Gw c 13 hc13;rw[show((13:UInt8).toNat:Int)=13 from rfl]at hcb
     have hcb2: ¬(c.toNat:Int)=13:=by simpa using hcb
     clear hc13;go_wp2_with fail
     refine(hnb _).mono ?_;rintro e w2 ⟨rfl,rfl⟩;go_wp2_with fail
     refine hnx.mono ?_;rintro e w2 ⟨rfl,mm,rfl⟩;have hname':=hname mm;have hbm:Below g w (wr.drewN mm):=below_drewN' hb mm;have BOm:=BO.drewN mm;clear hname hnx;go_wp2_with fail
     refine hname'.mono ?_;rintro e w3 ⟨h3,F3⟩;have hb3:Below g w w3:=hbm.trans (aY (Nat.le_of_lt hgr) F3);have BO3:=BOm.frA F3 hhg;have hg3:g<w3.heap.size:=Nat.lt_of_lt_of_le hgr F3.fr.size;rcases aN h3 with⟨hx,rfl,L⟩| ⟨hx,rfl,L⟩| ⟨s1,t1,hx,rfl,⟨x3,k3,q3⟩,L⟩
     ·exact⟨rfl,aA (by rw[HG.out,hx.out];rfl) hb3⟩
     ·exact⟨rfl,aC (by rw[HG.out,hx.out];rfl) hb3⟩
     ·have hs1:s1.length<= 1000000:=Nat.le_trans (Em _ _ _ _ _ hx.out) hrP
      have ht1:=Jl _ _ _ _ _ hx.out;have hroom:=Eo _ _ _ _ _ hx.out;have HR:=Lib.hid (fun h=>hroom h HOO.out)
      have HG2:=Lib.hid (show eP true N [] s.r=if lH s1 then .ok (fs,s1) t1 else(lI t1).bind fun v t=>eP true m (fs++ [(s1,v)]) t by rw[HG.out,hx.out];rfl)
      have hown:=fun w=>oL s1 w hs1
      clear HG hx hroom hname' HF h3 c3;generalize lH s1=o1 at*;cases o1
      ·have hfr:fs.length<24:=HR.out rfl
       go_wp2_with fail
       refine(hown w3).mono ?_;rintro e w4 ⟨rfl,L4⟩;have hb4:Below g w w4:=hb3.trans (L4.mono (Nat.le_of_lt hg3));have BO4:=BO3.ah L4;have q4:=q3.ah L4;obtain⟨-,-,-,-,d4,-,-,-,-,-,-,-,e4,-⟩:=q4.c8;obtain⟨Av,cv,hvf,-,-,-⟩:=q4.of_.form;rw[hvf]at d4;have HVF:=Lib.hid hvf;have hvn:=yK q4.drew hP;have hvk:=fun(v t:Bs)=>yJ (v:=v) (t:=t) q4.drew hP
       clear hvf L4 BO3 q3 hb3 hown HR;rcases hv:lI t1 with _|_| ⟨v,t2⟩
       ·have hc:=hvn.1 hv
        have HE:=Lib.hid (show eP true N [] s.r= .short by rw[HG2.out,hv];rfl)
        have hbd: ∀w5,Below g w4.drew w5-> Below g w w5:=fun w5 L=>Below.trans (Below.drew hb4) L
        clear hv hvn hvk;go_wp2_with fail
        go_region_dies
        all_goals (refine hc.mono ?_;rintro e w5 ⟨rfl,L5⟩;go_simp;exact⟨rfl,aA HE.out (hbd _ L5)⟩)
       ·have hc:=hvn.2 hv
        have HE:=Lib.hid (show eP true N [] s.r= .bad by rw[HG2.out,hv];rfl)
        have hbd: ∀w5,Below g w4.drew w5-> Below g w w5:=fun w5 L=>Below.trans (Below.drew hb4) L
        clear hv hvn hvk;go_wp2_with fail
        go_region_dies
        all_goals (refine hc.mono ?_;rintro e w5 ⟨rfl,L5⟩;go_simp;exact⟨rfl,aC HE.out (hbd _ L5)⟩)
       ·have hc:=hvk v t2 hv
        have HE:=Lib.hid (show eP true N [] s.r=eP true m (fs++ [(s1,v)]) t2 by rw[HG2.out,hv];rfl)
        have hvl:=Og _ _ _ hv;have hvs:v.length<= 1000000:=Nat.le_trans (Jm _ _ _ hv) (by omega)
        have hg4:g<w4.heap.size:=q4.lt;clear hv hvn hvk HG2 hhg;go_wp2_with fail
        go_region_law (first| (go_simp;go_at_call 162;refine hc.mono ?_;rintro e w5 ⟨rfl,⟨x5,k5,q5,hx5⟩,F5⟩;have c4:=(F5.cl 4 (by decide)).trans d4;have ho5:=q5.of_;rw[hx5,HVF.out]at ho5;have HX5:=Lib.hid hx5;have hg5:g<w5.heap.size:=q5.lt;have hg6: ¬g=w5.heap.size:=Nat.ne_of_lt q5.lt;clear hx5)| (refine rF rfl (.tmp 35) (.tmp 40) rfl (g+1) (.slice Av fs.length cv) fs rfl ho5 (aj (Below.refl _ _) _) _ 1 1 (w5.heap.size+1) rfl [(s1,v)] rfl (Rd.new w5 _ rfl [sv s1,sv v] _ 1 2 rfl) (by simp;omega) q5.lt ?_;intro v' w6 ho6 hx6;obtain⟨A6,c6,hv6,-,-,-⟩:=ho6.form;rw[show(fs++ [(s1,v)]).length=fs.length+1 by simp]at hv6;subst hv6;have B6:=q5.blk.fr hx6.fr (fun e=>by have:=(ho5.lt _ e).1;omega);obtain⟨-,-,-,-,z4,-,-,-,-,-,-,-,y4,-⟩:=Blk.c8 B6;clear B6))
        all_goals
         have HX:=HX5.out;rw[<- HVF.out]at hx6;have q7:=RM.field q5 HX hx6 ho6 hfr;have BO5:=BO4.drew.frA F5 (BO4.ne q4.blk (by decide))
         have BO7:Blk (w6.setCell ⟨g,4,none⟩ (.slice A6 (fs.length+1) c6)) h 9 ((vS true).map tv).toArray:=by
          refine Blk.far (BO5.fr hx6.fr ?_) (BO5.ne q5.blk (by decide)) _
          rw[HVF.out];exact BO5.own_ne ho5 (by decide)
         have hb7:Below g w (w6.setCell ⟨g,4,none⟩ (.slice A6 (fs.length+1) c6)):=by
          refine Below.setCell (((Below.drew hb4).trans (aY (Nat.le_of_lt hg4) F5)).trans ?_) (Nat.le_refl _) _;rw[HVF.out]at hx6;exact hx6.below ho5 (Nat.le_succ g) (Nat.le_of_lt hg5)
         go_wp2
         go_roundg m
         case rel=>exact⟨fs++ [(s1,v)],t2,by omega,HE,⟨_,k5,q7⟩,hb7,BO7⟩
         case measure=>omega
      ·go_wp2_with fail
       refine(hown w3).mono ?_;rintro e w4 ⟨rfl,L4⟩;go_wp2
       go_ret
       exact bM HG2.out rfl (hb3.trans (L4.mono (Nat.le_of_lt hg3))) ⟨x3,k3,q3.ah L4⟩
end Go.Proofs.YtdmondfpepbniaaGreatDoor
