/- Part 20 of the proof: Par8. -/
import Derived.Test.YtdmondfpepbniaaGreatDoorQ19
namespace Go.Proofs.YtdmondfpepbniaaGreatDoor
open Go.RowKit
set_option maxRecDepth 100000
set_option maxHeartbeats 4000000
set_option linter.all false
theorem EG (p:PS) (c:UInt8):(gW p c).fed=p.fed:=by
 unfold gW;split
 ·split
  ·unfold Bj
   split
   ·rfl
   ·split
    ·unfold jd
     split
     ·rfl
     ·split<;>rfl
    ·rfl
  ·rfl
 ·split<;>split<;>rfl
theorem Qx (p:PS) (c:UInt8):(iJ p c).fed<= p.fed+1:=by
 unfold iJ;split
 ·unfold Ew
  split
  ·exact Nat.le_refl _
  ·exact Nat.le_refl _
 ·rw[EG];omega
theorem EH: ∀(l:Bs) (p:PS),(aB p l).2.fed<= p.fed+(aB p l).1
 | [],p=>Nat.le_refl _
 |c::l,p=>by
  rw[aB];split
  ·exact Nat.le_refl _
  ·have h1:=EH l (iJ p c)
   have h2:=Qx p c;simp only;omega
theorem GR (p:PS) (c:UInt8):p.fed<=(iJ p c).fed:=by
 unfold iJ;split
 ·unfold Ew
  split
  ·exact Nat.le_add_right _ _
  ·exact Nat.le_add_right _ _
 ·rw[EG];exact Nat.le_refl _
theorem wI: ∀(l:Bs) (p:PS),p.fed<=(aB p l).2.fed
 | [],p=>Nat.le_refl _
 |c::l,p=>by
  rw[aB];split
  ·exact Nat.le_refl _
  ·exact Nat.le_trans (GR p c) (wI l (iJ p c))
def RdO (w:World) (S:Nat-> Prop) (A:Option Addr) (n:Nat) (xs:List Value):Prop:=Rd w w.heap.size 1 A n xs/\ (0<n-> ∀a,A=some a-> ¬S a.block)
theorem RdO.moved {S S':Nat-> Prop} {w w':World} {A:Option Addr} {n:Nat} {xs:List Value} (h:RdO w S A n xs) (m:Moved S S' w w'):RdO w' S' A n xs:=by
 refine⟨(h.1.frm (Nat.le_refl _) m.fr h.2).more m.fr.size,fun h0 a ha hs=> ?_⟩
 obtain⟨b,o,e,hb,-⟩:=h.1.2 h0;rw[ha]at e;injection e with e
 subst e;rcases m.foot _ hs with h1|h1
 ·exact h.2 h0 _ ha h1
 ·simp only at h1;omega
theorem RdO.ah {S:Nat-> Prop} {w w':World} {A:Option Addr} {n:Nat} {xs:List Value} (h:RdO w S A n xs) (hb:Below w.heap.size w w'):RdO w' S A n xs:=
 ⟨(h.1.ah (Nat.le_refl _) hb).more hb.size,h.2⟩
def RdP (w:World) (S:Nat-> Prop) (A:Option Addr) (n:Nat) (ps:List Bs):Prop:=
 ∃vs:List Value,RdO w S A n vs/\ ps.length=n/\ ∀(i:Nat) (p:Bs),ps[i]? = some p-> ∃(Ai:Option Addr) (ci:Nat),vs[i]? = some (Value.slice Ai p.length ci)/\ p.length<= ci/\ RdO w S Ai p.length (p.map bv)
theorem RdP.moved {S S':Nat-> Prop} {w w':World} {A:Option Addr} {n:Nat} {ps:List Bs} (h:RdP w S A n ps) (m:Moved S S' w w'):RdP w' S' A n ps:=by
 obtain⟨vs,h1,h2,h3⟩:=h;refine⟨vs,h1.moved m,h2,fun i p hp=> ?_⟩
 obtain⟨Ai,ci,e,hc,hr⟩:=h3 i p hp;exact⟨Ai,ci,e,hc,hr.moved m⟩
theorem RdP.at_ {w:World} {S:Nat-> Prop} {A:Option Addr} {n:Nat} {ps:List Bs} (h:RdP w S A n ps) {k:Nat} {p:Bs} (hp:ps[k]? = some p):
 ∃b o Ai ci,A=some ⟨b,o,none⟩/\ w.cell? ⟨b,o+k,none⟩=some (Value.slice Ai p.length ci)/\ p.length<= ci/\ RdO w S Ai p.length (p.map bv):=by
 obtain⟨vs,h1,h2,h3⟩:=h;obtain⟨Ai,ci,e,hc,hr⟩:=h3 k p hp;have hk:k<ps.length:=(List.getElem?_eq_some_iff.1 hp).1;obtain⟨b,o,ea,hb,hx⟩:=h1.1.2 (by omega)
 exact⟨b,o,Ai,ci,ea,hx k _ e,hc,hr⟩
theorem RdP.nil (w:World) (S:Nat-> Prop):RdP w S none 0 []:=⟨[],⟨⟨rfl,fun h=>absurd h (Nat.lt_irrefl _)⟩,fun h=>absurd h (Nat.lt_irrefl _)⟩,rfl,fun i p hp=>by simp at hp⟩
theorem Qy (ps:List Bs) (k:Nat) (p:Bs) (h:ps[k]? = some p):(ps.take (k+1)).flatten=(ps.take k).flatten++p:=by
 have hk:k<ps.length:=(List.getElem?_eq_some_iff.1 h).1;rw[List.take_succ_eq_append_getElem hk,List.flatten_append];have:ps[k]=p:=(List.getElem?_eq_some_iff.1 h).2;simp[this]
theorem join_le (ps:List Bs) (k:Nat):((ps.take k).flatten).length<= ps.flatten.length:=by
 conv=>rhs;rw[<- List.take_append_drop k ps]
 rw[List.flatten_append,List.length_append];omega
def VX:Value-> Nat
 | .slice _ n _=>n
 |_=>0
theorem RdO.tail {w:World} {S:Nat-> Prop} {A V:Option Addr} {n k:Nat} {l:Bs} (h:RdO w S A n (l.map bv)) (hk:k<= n) (hV:k<n-> V=A.map (·.add k)):RdO w S V (n-k) ((l.drop k).map bv):=by
 have h1:=h.1.cutFrom (k:=k) hk;rw[Nat.mul_one,<- List.map_drop]at h1;rcases Nat.lt_or_ge k n with hlt|hge
 ·rw[hV hlt]
  refine⟨h1,fun _ a ha=> ?_⟩
  obtain⟨b,o,rfl,-,-⟩:=h.1.2 (by omega)
  rw[Option.map_some,gu]at ha;injection ha with ha
  subst ha;exact h.2 (by omega) ⟨b,o,none⟩ rfl
 ·exact⟨⟨h1.1,fun h9=>absurd h9 (by omega)⟩,fun h9=>absurd h9 (by omega)⟩
def Qz (w:World) (g:Nat) (x:PP) (q:Nat×PS) (e:Ending) (w':World):Prop:=
 e= .returned (.int .i64 (q.1:Int))/\ ji q.2/\ ∃x',PK w' g (aF q.2 x') q.2.line q.2.body q.2.head q.2.chunks x'/\ Moved (pS g x) (pS g x') w w'
theorem VY (g:Nat) (p:PS) (x:PP) (A:Option Addr) (n cp:Nat) (ps:List Bs) (w:World) (q:PK w g (aF p x) p.line p.body p.head p.chunks x) (hi:ji p) (hA:RdP w (pS g x) A n ps) (hn:ps.flatten.length<= 1000000) (hf:p.fed<= 900000000) (hm:ML w) (hh:Hi (pS g x)) (hnl:n<= 1000000):
 Calls Tryz.prog 249 #[.pointer (some ⟨g,0,none⟩),.slice A n cp] w (Qz w g x (aB p ps.flatten)):=by
 have hl:ps.length=n:=by obtain⟨vs,h1,h2,h3⟩:=hA;exact h2
 go_enter Tryz.func249,Tryz.ntmps249
 go_wp2
 go_loopw [5,13] (fun v i wr=> ∃(k N:Nat) (p1:PS) (x1:PP),k<= n/\ i= .int .i64 k/\ v= .int .i64 (N:Int)/\ PK wr g (aF p1 x1) p1.line p1.body p1.head p1.chunks x1/\ ji p1/\ Moved (pS g x) (pS g x1) w wr/\ Hid (aB p (ps.take k).flatten=(N,p1))) (fun _ i _=>n- (intOf i).toNat)
 case atStart=>exact⟨0,0,p,x,Nat.zero_le _,rfl,rfl,q,hi,Moved.refl _ _,Lib.hid rfl⟩
 case round=>
  obtain⟨k,N,p1,x1,hk,rfl,rfl,q1,hI1,hM1,H⟩:=hrel;by_cases hlt:k<n
  ·obtain⟨pk,hp,-⟩: ∃pk,ps[k]? = some pk/\ True:=⟨ps[k],by simp[hl,hlt],trivial⟩
   have hT:=join_le ps (k+1);have hJ:=Qy ps k pk hp;have hNT:N+pk.length<=((ps.take (k+1)).flatten).length:=by
    have h1:=je (ps.take k).flatten p;rw[H.out]at h1;simp only at h1;rw[hJ,List.length_append];omega
   have HJ:=Lib.hid (show aB p (ps.take (k+1)).flatten=(N+(aB p1 pk).1,(aB p1 pk).2) by
    rw[hJ,Ez,H.out])
   obtain⟨T,hTe⟩: ∃T,T=((ps.take (k+1)).flatten).length:=⟨_,rfl⟩;rw[<- hTe]at hNT hT;have HT:=Lib.hid hTe;obtain⟨b,o,Ai,ci,rfl,hcell,hci,hr⟩:=(hA.moved hM1).at_ hp;clear hJ hp hTe H;go_wp2
   go_loopw [5,7] (fun v r wr=> ∃(N2:Nat) (l:Bs) (Ar:Option Addr) (cr:Nat) (p2:PS) (x2:PP),v= .int .i64 (N2:Int)/\ r= .slice Ar l.length cr/\ l.length<= cr/\ N2+l.length<= T/\ RdO wr (pS g x2) Ar l.length (l.map bv)/\ PK wr g (aF p2 x2) p2.line p2.body p2.head p2.chunks x2/\ ji p2/\ Moved (pS g x) (pS g x2) w wr/\ Hid (aB p (ps.take (k+1)).flatten=(N2+(aB p2 l).1,(aB p2 l).2))) (fun _ r _=>VX r)
   case atStart=>exact⟨N,pk,Ai,ci,p1,x1,rfl,rfl,hci,hNT,hr,q1,hI1,hM1,HJ⟩
   case round=>
    clear hr q1 hI1 hM1 HJ hNT hci hcell;obtain⟨N2,l,Ar,cr,p2,x2,rfl,rfl,hcr,hNT,hr,q2,hI2,hM2,HJ⟩:=hrel;have j0:wr.cell? ⟨g,0,none⟩=some (.int .i64 (p2.phase:Int)):=q2.blk.cell 0;rcases Nat.eq_zero_or_pos l.length with h0|h0
    ·obtain rfl:l= []:=List.eq_nil_of_length_eq_zero h0
     have HF:=Lib.hid (show aB p (ps.take (k+1)).flatten=(N2,p2) by rw[HJ.out,Ey];rfl)
     rw[List.length_nil]at*;clear h0 HJ;go_wp2
     go_roundw
     case rel=>exact⟨k+1,N2,p2,x2,by omega,by go_num,rfl,q2,hI2,hM2,HF⟩
     case measure=>simp[intOf];omega
    ·by_cases h3:p2.phase<= 2
     ·have h3':(p2.phase:Int)<3:=by omega
      have hfed:p2.fed<= 1000000000:=by
       have h1:=wI l p2;have h2:=EH (ps.take (k+1)).flatten p;have h4:=je (ps.take (k+1)).flatten p;have h5:=HJ.out;rw[<- HT.out]at h4;rw[h5]at h2 h4;simp only at h2 h4;omega
      have hC:=VW g p2 x2 Ar l.length cr _ l wr q2 hI2 h3 hr.1 (Nat.le_refl _) hr.2 h0 (by omega) hcr hfed (hm.fr hM2.fr hh) (hh.moved hm hM2)
      clear hfed h3;go_wp2_with fail
      refine hC.mono ?_;rintro e w3 ⟨m,p3,rfl,hm1,hml,hF,hI3,x3,q3,hM3⟩
      have HF:=Lib.hid (show aB p (ps.take (k+1)).flatten=(N2+m+(aB p3 (l.drop m)).1,(aB p3 (l.drop m)).2) by
       rw[HJ.out,hF];exact Prod.ext (by simp only;omega) rfl)
      clear hF hC j0 h3';obtain⟨b2,o2,rfl,-,-⟩:=hr.1.2 h0;by_cases hmc:m=cr
      ·subst hmc
       go_wp2
       go_roundw
       case rel=>
        have hml2:m=l.length:=by omega
        have ht:=(hr.moved hM3).tail (V:=some ⟨b2,o2,none⟩) (k:=m) hml (fun h9=>absurd h9 (by omega))
        refine⟨N2+m,l.drop m,some ⟨b2,o2,none⟩,0,p3,x3,by rw[Int.natCast_add],?_,?_,?_,?_,q3,hI3,hM2.trans hM3,HF⟩
        ·rw[List.length_drop];congr 1;omega
        ·rw[List.length_drop];omega
        ·rw[List.length_drop];omega
        ·rw[List.length_drop];exact ht
       case measure=>simp only[VX];omega
      ·have hmc2:m<cr:=by omega
       go_wp2
       go_roundw
       case rel=>
        have ht:=(hr.moved hM3).tail (V:=some ⟨b2,o2+m,none⟩) (k:=m) hml (fun _=>by rw[Option.map_some,gu])
        refine⟨N2+m,l.drop m,some ⟨b2,o2+m,none⟩,cr-m,p3,x3,by rw[Int.natCast_add],?_,?_,?_,?_,q3,hI3,hM2.trans hM3,HF⟩
        ·rw[List.length_drop]
        ·rw[List.length_drop];omega
        ·rw[List.length_drop];omega
        ·rw[List.length_drop];exact ht
       case measure=>simp only[VX];omega
     ·have h3': ¬(p2.phase:Int)<3:=by omega
      have HF:=Lib.hid (show aB p (ps.take (k+1)).flatten=(N2,p2) by rw[HJ.out,rO _ _ (by omega)];rfl)
      clear HJ h3;go_wp2
      go_roundw
      case rel=>exact⟨k+1,N2,p2,x2,by omega,by go_num,rfl,q2,hI2,hM2,HF⟩
      case measure=>simp[intOf];omega
  ·have HF:=Lib.hid (show aB p ps.flatten=(N,p1) by rw[<- H.out,List.take_of_length_le (by omega)])
   clear H;go_wp2
   go_ret
   rw[HF.out];exact⟨rfl,hI1,x1,q1,hM1⟩
abbrev MH (m:Bs) (t:Tgt) (v:Int) (F B:Value) (c e:Bool):Value:=.agg #[sv m,.int .i64 t.form,sv t.host,sv t.path,sv t.query,.int .i64 v,F,B,.bool c,.bool e]
abbrev req0:Value:=MH [] bY 0 (.slice none 0 0) (.slice none 0 0) false false
theorem Dx (a b:Int) (c d:Bool) (w:World):(Instr.field 352 (.agg #[.int .i64 a,.int .i64 b,.bool c,.bool d]) 3).run Tryz.prog w= .ok (.bool d) w:=by kernel_rfl
def BD (p:PS):Bool:=decide (p.phase=2)&&p.head.how.expect&&decide (p.fed=0)
theorem QA (g:Nat) (S:Nat-> Prop) (p:PS) (w:World) (q:PR w g S p):
 Calls Tryz.prog 254 #[.pointer (some ⟨g,0,none⟩)] w fun e w'=>e= .returned (.bool (BD p))/\ Below w.heap.size w w':=by
 obtain⟨x,rfl,k⟩:=q;have HE:=Lib.hid (show BD p=(decide (p.phase=2)&&p.head.how.expect&&decide (p.fed=0))from rfl)
 have c0:w.cell? ⟨g,0,none⟩=some (.int .i64 (p.phase:Int)):=k.blk.cell 0;have kf:=fun(a b:Int) (c d:Bool) (w:World)=>Dx a b c d w
 by_cases h2:p.phase=2
 ·have c3:w.cell? ⟨g,3,none⟩=some (.pointer (some ⟨x.gh,0,none⟩)):=k.blk.cell 3
  have hH:=Lc x.gh x.Sh p.head w k.hh;obtain⟨y,hy⟩: ∃y,y=p.head.how:=⟨_,rfl⟩;rw[<- hy]at hH;have HY:=Lib.hid hy;unfold IG at hH;rw[h2]at c0;have H2:=Lib.hid h2;clear hy h2;cases hx:y.expect
  ·rw[hx]at hH
   have HX:=Lib.hid hx;clear hx k;go_enter Tryz.func254,Tryz.ntmps254
   go_wp2_with fail
   refine hH.mono ?_;rintro e w1 ⟨rfl,L1⟩;go_wp2
   go_ret
   exact⟨fO (by rw[HE.out,<- HY.out,HX.out,Bool.and_false,Bool.false_and]),L1⟩
  ·rw[hx]at hH
   have HX:=Lib.hid hx;have q1:=fun w1 (L1:Below w.heap.size w w1)=>(k.ah L1).blk.cell 7
   clear hx k;by_cases hf:p.fed=0
   ·have hf0:((p.fed:Int)==0)=true:=by rw[beq_iff_eq];omega
    have HF:=Lib.hid hf;clear hf;go_enter Tryz.func254,Tryz.ntmps254
    go_wp2_with fail
    refine hH.mono ?_;rintro e w1 ⟨rfl,L1⟩;have c7:w1.cell? ⟨g,7,none⟩=some (.int .i64 (p.fed:Int)):=q1 w1 L1;clear q1;go_wp2
    go_ret
    exact⟨fO (by rw[HE.out,<- HY.out,HX.out,decide_eq_true H2.out,decide_eq_true HF.out];rfl),L1⟩
   ·have hf0:((p.fed:Int)==0)=false:=by rw[Bool.eq_false_iff];intro h0;rw[beq_iff_eq]at h0;omega
    have HF:=Lib.hid hf;clear hf;go_enter Tryz.func254,Tryz.ntmps254
    go_wp2_with fail
    refine hH.mono ?_;rintro e w1 ⟨rfl,L1⟩;have c7:w1.cell? ⟨g,7,none⟩=some (.int .i64 (p.fed:Int)):=q1 w1 L1;clear q1;go_wp2
    go_ret
    exact⟨fO (by rw[HE.out,decide_eq_false HF.out,Bool.and_false]),L1⟩
 ·have h20:((p.phase:Int)==2)=false:=by rw[Bool.eq_false_iff];intro h0;rw[beq_iff_eq]at h0;omega
  have H2:=Lib.hid h2;clear h2 k;go_enter Tryz.func254,Tryz.ntmps254
  go_wp2
  go_ret
  exact⟨fO (by rw[HE.out,decide_eq_false H2.out];rfl),Below.refl _ _⟩
theorem Blk.to {w:World} {g:Nat} {T:TypeId} {cs cs':Array Value} (h:Blk w g T cs) (e:cs=cs'):Blk w g T cs':=e▸h
theorem Blk.set8 {w:World} {g:Nat} {T:TypeId} {a0 a1 a2 a3 a4 a5 a6 a7:Value} (h:Blk w g T #[a0,a1,a2,a3,a4,a5,a6,a7]) (b0 b1 b2 b3 b4 b5 b6 b7:Value):Blk ((((((((w.setCell ⟨g,0,none⟩ b0).setCell ⟨g,1,none⟩ b1).setCell ⟨g,2,none⟩ b2).setCell ⟨g,3,none⟩ b3).setCell ⟨g,4,none⟩ b4).setCell ⟨g,5,none⟩ b5).setCell ⟨g,6,none⟩ b6).setCell ⟨g,7,none⟩ b7) g T #[b0,b1,b2,b3,b4,b5,b6,b7]:=
 Blk.to ((((((((h.ay 0 b0).ay 1 b1).ay 2 b2).ay 3 b3).ay 4 b4).ay 5 b5).ay 6 b6).ay 7 b7) (by simp)
theorem YV {w0 w:World} {S:Nat-> Prop} {g:Nat} (h:Fr S w0 w) (hg:S g) (b0 b1 b2 b3 b4 b5 b6 b7:Value):Fr S w0 ((((((((w.setCell ⟨g,0,none⟩ b0).setCell ⟨g,1,none⟩ b1).setCell ⟨g,2,none⟩ b2).setCell ⟨g,3,none⟩ b3).setCell ⟨g,4,none⟩ b4).setCell ⟨g,5,none⟩ b5).setCell ⟨g,6,none⟩ b6).setCell ⟨g,7,none⟩ b7):=
 (((((((h.setCell (p:=⟨g,0,none⟩) (.inl hg) b0).setCell (p:=⟨g,1,none⟩) (.inl hg) b1).setCell (p:=⟨g,2,none⟩) (.inl hg) b2).setCell (p:=⟨g,3,none⟩) (.inl hg) b3).setCell (p:=⟨g,4,none⟩) (.inl hg) b4).setCell (p:=⟨g,5,none⟩) (.inl hg) b5).setCell (p:=⟨g,6,none⟩) (.inl hg) b6).setCell (p:=⟨g,7,none⟩) (.inl hg) b7
theorem PK.move {w w':World} {g g':Nat} {x:PP} {T:Nat-> Prop} (q:PK w g' (aF p0 x) [] [] hs0 none x) (hf:Fr T w w') (hT: ∀k,pS g' x k-> ¬T k) (hb:Blk w' g 323 (aF p0 x)) (hg: ¬pS g' x g):
 ∃x2,PK w' g (aF p0 x2) [] [] hs0 none x2/\ ∀k,pS g x2 k-> k=g\/ pS g' x k:=by
 have q':=q.fr hf hT;have hne: ∀k,pS g' x k->(if k=g then 0 else x.tag k)=x.tag k:=fun k hk=>if_neg (fun e=>by rw[e]at hk;exact hg hk)
 refine⟨{ x with tag:=fun k=>if k=g then 0 else x.tag k },⟨hb,q'.ol,q'.ob,q'.hh,q'.kk,if_pos rfl,fun k hk=> ?_,fun k hk=> ?_,fun k hk=> ?_,fun k hk=> ?_⟩,fun k hk=> ?_⟩
 ·exact(hne k (.inr (.inl hk))).trans (q'.t1 k hk)
 ·exact(hne k (.inr (.inr (.inl hk)))).trans (q'.t2 k hk)
 ·exact(hne k (.inr (.inr (.inr (.inl hk))))).trans (q'.t3 k hk)
 ·exact(hne k (.inr (.inr (.inr (.inr hk))))).trans (q'.t4 k hk)
 ·rcases hk with hk|hk
  ·exact .inl hk
  ·exact .inr (.inr hk)
theorem GU (g:Nat) (S:Nat-> Prop) (p:PS) (w:World) (q:PR w g S p) (hp:p.phase≠3):
 Calls Tryz.prog 251 #[.pointer (some ⟨g,0,none⟩)] w fun e w'=>e= .returned (.tuple #[req0,.int .i64 4])/\ Below w.heap.size w w':=by
 obtain⟨x,rfl,k⟩:=q;have c0:(w.alloc (.cells #[.string ⟨#[]⟩,.int .i64 0,.string ⟨#[]⟩,.string ⟨#[]⟩,.string ⟨#[]⟩,.int .i64 0,.slice none 0 0,.slice none 0 0,.bool false,.bool false] 316)).cell? ⟨g,0,none⟩=some (.int .i64 (p.phase:Int)):=(k.ah (aj (Below.refl _ _) _)).blk.cell 0;have h3:((p.phase:Int) != 3)=true:=by rw[bne_iff_ne];omega
 clear k hp;go_enter Tryz.func251,Tryz.ntmps251
 go_wp2
 refine bodyPost_ret (v:=.tuple #[req0,.int .i64 4]) (by simp[results,Tryz.results251,go_sem,sv,bY]) rfl ⟨rfl,aj (Below.refl _ _) _⟩
theorem HR.fields {w:World} {g:Nat} {S:Nat-> Prop} {h:HS} (k:HR w g S h): ∃pf,w.cell? ⟨g,0,none⟩=some (.pointer (some ⟨pf,0,none⟩))/\ FR w 347 pf h.bJ:=by
 obtain⟨pf,v,rfl,k⟩:=k;exact⟨pf,k.blk.cell 0,k.fa.rd⟩
theorem Blk.ZI {w:World} {g:Nat} {T:TypeId} {a0 a1 a2 a3 a4 a5 a6 a7 a8 a9:Value} (h:Blk w g T #[a0,a1,a2,a3,a4,a5,a6,a7,a8,a9]) (b0 b1 b2 b3 b4 b5 b6 b7 b8 b9:Value):Blk ((((((((((w.setCell ⟨g,0,none⟩ b0).setCell ⟨g,1,none⟩ b1).setCell ⟨g,2,none⟩ b2).setCell ⟨g,3,none⟩ b3).setCell ⟨g,4,none⟩ b4).setCell ⟨g,5,none⟩ b5).setCell ⟨g,6,none⟩ b6).setCell ⟨g,7,none⟩ b7).setCell ⟨g,8,none⟩ b8).setCell ⟨g,9,none⟩ b9) g T #[b0,b1,b2,b3,b4,b5,b6,b7,b8,b9]:=
 Blk.to ((((((((((h.ay 0 b0).ay 1 b1).ay 2 b2).ay 3 b3).ay 4 b4).ay 5 b5).ay 6 b6).ay 7 b7).ay 8 b8).ay 9 b9) (by simp)
theorem yP {n g:Nat} {W w:World} (h:Below n W w) (hg:n<= g) (b0 b1 b2 b3 b4 b5 b6 b7 b8 b9:Value):Below n W ((((((((((w.setCell ⟨g,0,none⟩ b0).setCell ⟨g,1,none⟩ b1).setCell ⟨g,2,none⟩ b2).setCell ⟨g,3,none⟩ b3).setCell ⟨g,4,none⟩ b4).setCell ⟨g,5,none⟩ b5).setCell ⟨g,6,none⟩ b6).setCell ⟨g,7,none⟩ b7).setCell ⟨g,8,none⟩ b8).setCell ⟨g,9,none⟩ b9):=
 (((((((((h.setCell hg b0).setCell hg b1).setCell hg b2).setCell hg b3).setCell hg b4).setCell hg b5).setCell hg b6).setCell hg b7).setCell hg b8).setCell hg b9
theorem Ju {w0 w:World} {S:Nat-> Prop} {g:Nat} (h:Fr S w0 w) (hg:S g) (b0 b1 b2 b3 b4 b5 b6 b7 b8 b9:Value):Fr S w0 ((((((((((w.setCell ⟨g,0,none⟩ b0).setCell ⟨g,1,none⟩ b1).setCell ⟨g,2,none⟩ b2).setCell ⟨g,3,none⟩ b3).setCell ⟨g,4,none⟩ b4).setCell ⟨g,5,none⟩ b5).setCell ⟨g,6,none⟩ b6).setCell ⟨g,7,none⟩ b7).setCell ⟨g,8,none⟩ b8).setCell ⟨g,9,none⟩ b9):=
 (((((((((h.setCell (p:=⟨g,0,none⟩) (.inl hg) b0).setCell (p:=⟨g,1,none⟩) (.inl hg) b1).setCell (p:=⟨g,2,none⟩) (.inl hg) b2).setCell (p:=⟨g,3,none⟩) (.inl hg) b3).setCell (p:=⟨g,4,none⟩) (.inl hg) b4).setCell (p:=⟨g,5,none⟩) (.inl hg) b5).setCell (p:=⟨g,6,none⟩) (.inl hg) b6).setCell (p:=⟨g,7,none⟩) (.inl hg) b7).setCell (p:=⟨g,8,none⟩) (.inl hg) b8).setCell (p:=⟨g,9,none⟩) (.inl hg) b9
theorem Blk.c10 {w:World} {g:Nat} {t:TypeId} {a0 a1 a2 a3 a4 a5 a6 a7 a8 a9:Value} (h:Blk w g t #[a0,a1,a2,a3,a4,a5,a6,a7,a8,a9]):(w.cell? ⟨g,0,none⟩=some a0/\ w.cell? ⟨g,1,none⟩=some a1/\ w.cell? ⟨g,2,none⟩=some a2/\ w.cell? ⟨g,3,none⟩=some a3/\ w.cell? ⟨g,4,none⟩=some a4/\ w.cell? ⟨g,5,none⟩=some a5/\ w.cell? ⟨g,6,none⟩=some a6/\ w.cell? ⟨g,7,none⟩=some a7/\ w.cell? ⟨g,8,none⟩=some a8/\ w.cell? ⟨g,9,none⟩=some a9)/\ w.frozen? ⟨g,0,none⟩=false/\ w.frozen? ⟨g,1,none⟩=false/\ w.frozen? ⟨g,2,none⟩=false/\ w.frozen? ⟨g,3,none⟩=false/\ w.frozen? ⟨g,4,none⟩=false/\ w.frozen? ⟨g,5,none⟩=false/\ w.frozen? ⟨g,6,none⟩=false/\ w.frozen? ⟨g,7,none⟩=false/\ w.frozen? ⟨g,8,none⟩=false/\ w.frozen? ⟨g,9,none⟩=false:=
 ⟨⟨h.cell 0,h.cell 1,h.cell 2,h.cell 3,h.cell 4,h.cell 5,h.cell 6,h.cell 7,h.cell 8,h.cell 9⟩,h.frozen 0,h.frozen 1,h.frozen 2,h.frozen 3,h.frozen 4,h.frozen 5,h.frozen 6,h.frozen 7,h.frozen 8,h.frozen 9⟩
theorem Own.VZ {w:World} {base e size n c:Nat} {A:Option Addr} {xs:List Value} (h:Own w base e size (.slice A n c) n xs) (h0:0<n): ∀a,A=some a->(Value.slice A n c).ownBlock=some a.block:=by
 intro a ha;obtain⟨g,cap,e,-⟩:=Own.form h h0;injection e with e1 e2 e3
 rw[e1]at ha;injection ha with ha
 subst ha;rw[e1];rfl
abbrev TS (g gh pf hb:Nat) (v:Value) (c e:Bool) (w:World):Prop:=
 w.cell? ⟨g,3,none⟩=some (.pointer (some ⟨gh,0,none⟩))/\ w.cell? ⟨g,5,none⟩=some v/\ w.cell? ⟨gh,0,none⟩=some (.pointer (some ⟨pf,0,none⟩))/\ w.cell? ⟨hb,2,none⟩=some (.bool c)/\ w.cell? ⟨hb,3,none⟩=some (.bool e)
theorem TS.below {g gh pf hb:Nat} {v:Value} {c e:Bool} {w w':World} (h:TS g gh pf hb v c e w) (L:Below w.heap.size w w') (h1:g<w.heap.size) (h2:gh<w.heap.size) (h3:hb<w.heap.size):TS g gh pf hb v c e w':=
 ⟨(L.cell (p:=⟨g,3,none⟩) h1).trans h.1,(L.cell (p:=⟨g,5,none⟩) h1).trans h.2.1,(L.cell (p:=⟨gh,0,none⟩) h2).trans h.2.2.1,(L.cell (p:=⟨hb,2,none⟩) h3).trans h.2.2.2.1,(L.cell (p:=⟨hb,3,none⟩) h3).trans h.2.2.2.2⟩
def V4 (w:World) (g:Nat) (S:Nat-> Prop) (p:PS) (e:Ending) (w':World):Prop:=
 ∃(AF:Option Addr) (cF:Nat) (AB:Option Addr) (cB:Nat),e= .returned (.tuple #[MH p.head.method p.head.tgt p.head.minor (.slice AF p.head.bJ.length cF) (.slice AB p.body.length cB) p.head.how.close p.head.how.expect,.int .i64 0])/\
  Rd w' w'.heap.size 2 AF p.head.bJ.length (aQ p.head.bJ)/\ (0<p.head.bJ.length-> ∀a,AF=some a-> w.heap.size<= a.block)/\ Rd w' w'.heap.size 1 AB p.body.length (p.body.map bv)/\ (0<p.body.length-> ∀a,AB=some a-> S a.block/\ a.block≠g)/\
  ∃S',PR w' g S' p0/\ Moved S S' w w'/\ ∀k,S' k-> k=g\/ (w.heap.size<= k/\ ∀a,AF=some a-> 0<p.head.bJ.length-> k≠a.block)
theorem GV (g:Nat) (S:Nat-> Prop) (p:PS) (w:World) (q:PR w g S p) (hp:p.phase=3) (hi:ji p):
 Calls Tryz.prog 251 #[.pointer (some ⟨g,0,none⟩)] w (V4 w g S p):=by
 obtain⟨x,rfl,k⟩:=q;obtain⟨VR,hVR⟩: ∃VR,VR=w.alloc (.cells #[.string ⟨#[]⟩,.int .i64 0,.string ⟨#[]⟩,.string ⟨#[]⟩,.string ⟨#[]⟩,.int .i64 0,.slice none 0 0,.slice none 0 0,.bool false,.bool false] 316):=⟨_,rfl⟩;have LR:=aj (Below.refl w.heap.size w) (.cells #[.string ⟨#[]⟩,.int .i64 0,.string ⟨#[]⟩,.string ⟨#[]⟩,.string ⟨#[]⟩,.int .i64 0,.slice none 0 0,.slice none 0 0,.bool false,.bool false] 316);have BR:=Blk.new w 316 #[.string ⟨#[]⟩,.int .i64 0,.string ⟨#[]⟩,.string ⟨#[]⟩,.string ⟨#[]⟩,.int .i64 0,.slice none 0 0,.slice none 0 0,.bool false,.bool false];have kR:=k.ah LR;rw[<- hVR]at LR BR kR;have c0:VR.cell? ⟨g,0,none⟩=some (.int .i64 (p.phase:Int)):=kR.blk.cell 0;have c3:VR.cell? ⟨g,3,none⟩=some (.pointer (some ⟨x.gh,0,none⟩)):=kR.blk.cell 3;rw[hVR,hp]at c0;rw[hVR]at c3;have hH:=Lc x.gh x.Sh p.head VR kR.hh;rw[hVR]at hH;unfold IG at hH;go_enter Tryz.func251,Tryz.ntmps251
 go_wp2_with fail
 refine hH.mono ?_;rintro e w1 ⟨rfl,L1⟩;rw[<- hVR]at L1;have k1:=kR.ah L1;have LA:=aj (Below.refl w1.heap.size w1) (.cells #[.int .i64 p.head.how.kind,.int .i64 p.head.how.len,.bool p.head.how.close,.bool p.head.how.expect] 352);have BA:=Blk.new w1 352 #[.int .i64 p.head.how.kind,.int .i64 p.head.how.len,.bool p.head.how.close,.bool p.head.how.expect];have k2:=k1.ah LA;have L2:=stepW L1 LA;obtain⟨W,hW⟩: ∃W,W=w1.alloc (.cells #[.int .i64 p.head.how.kind,.int .i64 p.head.how.len,.bool p.head.how.close,.bool p.head.how.expect] 352):=⟨_,rfl⟩;go_upto_region 4 with(fail)
 rw[<- hW];rw[<- hW]at k2 LA BA L2;obtain⟨pf,f0,hF⟩:=k2.hh.fields;obtain⟨Ab,cb,hvb,-,-,-⟩:=k2.ob.form;have hbl:=k2.blk;unfold aF at hbl;rw[hvb]at hbl;obtain⟨j0,j1,j2,j3,j4,j5,j6,j7,i0,i1,i2,i3,i4,i5,i6,i7⟩:=Blk.c8 hbl;obtain⟨m0,m1,m2,m3,-,-,-,-⟩:=BA.c4;have hgW:=k2.blk.lt;have hhW:x.gh<W.heap.size:=k2.hh.lt (by obtain⟨pf,v,e,-⟩:=k2.hh;rw[e];exact .inl rfl)
 have haW:=BA.lt;have hfl:p.head.bJ.length<= 100000:=Nat.le_trans hi.hd.len (by decide)
 have hAll: ∀W',Below W.heap.size W W'-> Calls Tryz.prog 287 #[.pointer (some ⟨pf,0,none⟩)] W' fun e w'=>(∃v,e= .returned v/\ OF w' W'.heap.size v p.head.bJ)/\ Below W'.heap.size W' w':=fun W' hb=>Yf pf p.head.bJ W' (hF.ah hb) hfl
 have hP0:TS g x.gh pf w1.heap.size (.slice Ab p.body.length cb) p.head.how.close p.head.how.expect W:=⟨j3,j5,f0,m2,m3⟩;have hP: ∀w',Below W.heap.size W w'-> TS g x.gh pf w1.heap.size (.slice Ab p.body.length cb) p.head.how.close p.head.how.expect w':=fun w' hb=>hP0.below hb hgW hhW haW
 have Ld:Below W.heap.size W W.drew:=(Below.refl W.heap.size W).drew;have Le:Below W.heap.size W (W.alloc (.cells #[.string ⟨#[]⟩,.int .i64 0,.string ⟨#[]⟩,.string ⟨#[]⟩,.string ⟨#[]⟩,.int .i64 0,.slice none 0 0,.slice none 0 0,.bool false,.bool false] 316)).drew:=(aj (Below.refl W.heap.size W) _).drew;have Be:Blk (W.alloc (.cells #[.string ⟨#[]⟩,.int .i64 0,.string ⟨#[]⟩,.string ⟨#[]⟩,.string ⟨#[]⟩,.int .i64 0,.slice none 0 0,.slice none 0 0,.bool false,.bool false] 316)).drew W.heap.size 316 #[.string ⟨#[]⟩,.int .i64 0,.string ⟨#[]⟩,.string ⟨#[]⟩,.string ⟨#[]⟩,.int .i64 0,.slice none 0 0,.slice none 0 0,.bool false,.bool false]:=(Blk.new' _ _ rfl _ _).ah ((Below.refl _ _).drew);have hn1: ¬g=W.heap.size:=by omega
 have hn2: ¬W.heap.size=g:=by omega
 have hn3: ¬x.gh=W.heap.size:=by omega
 have hn4: ¬W.heap.size=x.gh:=by omega
 have hn5: ¬w1.heap.size=W.heap.size:=by omega
 have hn6: ¬W.heap.size=w1.heap.size:=by omega
 clear hH c0 c3 j0 j1 j2 j4 j6 j7 i0 i1 i2 i3 i4 i5 i6 i7 m0 m1 hbl BA LA k1 L1 j3 j5 f0 m2 m3 hP0 hW;go_cut [5] (fun v5 wx=> ∃(rb:Nat) (AF:Option Addr) (cF:Nat),v5= .pointer (some ⟨rb,0,none⟩)/\ Blk wx rb 316 #[.string ⟨#[]⟩,.int .i64 0,.string ⟨#[]⟩,.string ⟨#[]⟩,.string ⟨#[]⟩,.int .i64 0,.slice AF p.head.bJ.length cF,.slice Ab p.body.length cb,.bool p.head.how.close,.bool p.head.how.expect]/\ OF wx W.heap.size (.slice AF p.head.bJ.length cF) p.head.bJ/\ (∀k,(Value.slice AF p.head.bJ.length cF).ownBlock=some k-> k≠rb)/\ W.heap.size<= rb/\ Below W.heap.size W wx)
 case first=>
  go_region_held3 (fun w'=>TS g x.gh pf w1.heap.size (.slice Ab p.body.length cb) p.head.how.close p.head.how.expect w')
   (first|with_reducible exact hP _ Ld|with_reducible exact hP _ Le|with_reducible exact S5|with_reducible exact S6 _|with_reducible exact hP _ (Ld.alloc Ld.size _)|with_reducible exact hP _ (yP N5 (Nat.le_refl _) _ _ _ _ _ _ _ _ _ _)| (refine⟨?_,?_,?_,?_,?_⟩<;>go_keep))
   (first
     | (go_at_call 287
        refine(hAll _ Le).mono ?_;rintro e w5 ⟨⟨v5,rfl,ho5⟩,M5⟩;have N5:=Le.trans (M5.mono Le.size);have S5:=hP w5 N5;obtain⟨A5,c5,rfl,-,-,-⟩:=OF.form ho5;have B5:=Be.ah M5
        obtain⟨⟨k0,k1,k2,k3,k4,k5,k6,k7,k8,k9⟩,l0,l1,l2,l3,l4,l5,l6,l7,l8,l9⟩:=B5.c10)
     | (go_at_call 287
        refine(hAll _ Ld).mono ?_;rintro e w5 ⟨⟨v5,rfl,ho5⟩,M5⟩;have N5:=Ld.trans (M5.mono Ld.size);have S5:=hP w5 N5;have S6:=fun o=>hP (w5.alloc o) (N5.alloc N5.size o)
        obtain⟨A5,c5,rfl,-,-,-⟩:=OF.form ho5))
  all_goals go_wp2_with fail
  all_goals go_meet
  all_goals case rel=>
   first
    | (have BB5:=B5
       exact⟨_,_,_,rfl,Blk.ZI BB5 _ _ _ _ _ _ _ _ _ _,Own.fr (Own.vC ho5 Le.size) (Ju (S:=fun k=>k=W.heap.size) (Fr.refl _ w5) rfl _ _ _ _ _ _ _ _ _ _) (fun k hk h9=>by have:=(Own.lt ho5 k hk).1;simp at this;omega),fun k hk h9=>by have:=(Own.lt ho5 k hk).1;simp at this;omega,Nat.le_refl _,yP N5 (Nat.le_refl _) _ _ _ _ _ _ _ _ _ _⟩)
    |exact⟨_,_,_,rfl,Blk.new' _ _ rfl _ _,Own.alloc (Own.vC ho5 Ld.size) _,fun k hk h9=>by have:=Own.lt2 ho5 hk;omega,N5.size,N5.alloc N5.size _⟩
 case rest=>
  obtain⟨rb,AF,cF,rfl,BB,hO,hne,hrb,LX⟩:=hcut;obtain⟨wx,rfl⟩: ∃wx,wx=wc:=⟨_,rfl⟩;have kx:=k2.ah LX;have c3:wx.cell? ⟨g,3,none⟩=some (.pointer (some ⟨x.gh,0,none⟩)):=kx.blk.cell 3;have hS:=IX x.gh x.Sh p.head wx kx.hh;unfold lF at hS;have hgw:=k.blk.lt;have hWs:w.heap.size<W.heap.size:=by have:=L2.size;have h9:=BR.lt;omega
  have n1: ¬g=rb:=by omega
  have n2: ¬rb=g:=by omega
  have n3: ¬g=w.heap.size:=by omega
  have n4: ¬w.heap.size=g:=by omega
  have n5: ¬w.heap.size=rb:=by omega
  have n6: ¬rb=w.heap.size:=by omega
  clear hAll hP Ld Le Be hn1 hn2 hn3 hn4 hn5 hn6;go_wp2_with fail
  refine hS.mono ?_;rintro e w6 ⟨rfl,L6⟩;have B6:=BB.ah L6;have O6:=OF.ah hO L6;have k6:=kx.ah L6;have L6':=LX.trans (L6.mono LX.size);obtain⟨⟨b0,b1,b2,b3,b4,b5,b6,b7,b8,b9⟩,l0,l1,l2,l3,l4,l5,l6,l7,l8,l9⟩:=B6.c10;clear hS c3 BB hO kx LX L6;have B7:=(((((B6.ay 0 (sv p.head.method)).ay 1 (.int .i64 p.head.tgt.form)).ay 2 (sv p.head.tgt.host)).ay 3 (sv p.head.tgt.path)).ay 4 (sv p.head.tgt.query)).ay 5 (.int .i64 p.head.minor);have B7':=B7.to (cs':=#[sv p.head.method,.int .i64 p.head.tgt.form,sv p.head.tgt.host,sv p.head.tgt.path,sv p.head.tgt.query,.int .i64 p.head.minor,.slice AF p.head.bJ.length cF,.slice Ab p.body.length cb,.bool p.head.how.close,.bool p.head.how.expect]) (by simp)
  have L7:=(((((L6'.setCell (p:=⟨rb,0,none⟩) hrb (sv p.head.method)).setCell (p:=⟨rb,1,none⟩) hrb (.int .i64 p.head.tgt.form)).setCell (p:=⟨rb,2,none⟩) hrb (sv p.head.tgt.host)).setCell (p:=⟨rb,3,none⟩) hrb (sv p.head.tgt.path)).setCell (p:=⟨rb,4,none⟩) hrb (sv p.head.tgt.query)).setCell (p:=⟨rb,5,none⟩) hrb (.int .i64 p.head.minor);have F7:Fr (fun k=>k=rb) w6 ((((((w6.setCell ⟨rb,0,none⟩ (sv p.head.method)).setCell ⟨rb,1,none⟩ (.int .i64 p.head.tgt.form)).setCell ⟨rb,2,none⟩ (sv p.head.tgt.host)).setCell ⟨rb,3,none⟩ (sv p.head.tgt.path)).setCell ⟨rb,4,none⟩ (sv p.head.tgt.query)).setCell ⟨rb,5,none⟩ (.int .i64 p.head.minor)):=
   Fr.setCell (S:=fun k=>k=rb) (Fr.setCell (S:=fun k=>k=rb) (Fr.setCell (S:=fun k=>k=rb) (Fr.setCell (S:=fun k=>k=rb) (Fr.setCell (S:=fun k=>k=rb) (Fr.setCell (S:=fun k=>k=rb) (Fr.refl _ w6) (p:=⟨rb,0,none⟩) (.inl rfl) _) (p:=⟨rb,1,none⟩) (.inl rfl) _) (p:=⟨rb,2,none⟩) (.inl rfl) _) (p:=⟨rb,3,none⟩) (.inl rfl) _) (p:=⟨rb,4,none⟩) (.inl rfl) _) (p:=⟨rb,5,none⟩) (.inl rfl) _
  have O7:=Own.fr O6 F7 hne;clear B7 F7;go_wp2_with fail
  rw[show Value.string { data:=p.head.method.toArray } =sv p.head.method from rfl,show Value.string { data:=p.head.tgt.host.toArray } =sv p.head.tgt.host from rfl,show Value.string { data:=p.head.tgt.path.toArray } =sv p.head.tgt.path from rfl,show Value.string { data:=p.head.tgt.query.toArray } =sv p.head.tgt.query from rfl]
  generalize ((((((w6.setCell ⟨rb,0,none⟩ (sv p.head.method)).setCell ⟨rb,1,none⟩ (.int .i64 p.head.tgt.form)).setCell ⟨rb,2,none⟩ (sv p.head.tgt.host)).setCell ⟨rb,3,none⟩ (sv p.head.tgt.path)).setCell ⟨rb,4,none⟩ (sv p.head.tgt.query)).setCell ⟨rb,5,none⟩ (.int .i64 p.head.minor))=W6 at B7' L7 O7⊢;have k7:=k2.ah L7;have R7:=BR.ah (L2.trans (L7.mono L2.size));clear B6 k6 O6 L6' b0 b1 b2 b3 b4 b5 b6 b7 b8 b9 l0 l1 l2 l3 l4 l5 l6 l7 l8 l9;refine(Oi W6).mono ?_;rintro e w8 ⟨⟨g8,S8,rfl,⟨x8,rfl,q8⟩,hS8⟩,L8⟩;have k8:=k7.ah L8;have B8:=B7'.ah L8;have R8:=R7.ah L8;have O8:=OF.ah O7 L8;have hck:x8.ck=none:=by
   rcases q8.kk with⟨h,-,-⟩| ⟨gk,r,-,h,-⟩
   ·exact h
   ·cases h
  obtain⟨Al8,cl8,hvl8,-,-,-⟩:=q8.ol.form;obtain⟨Ab8,cb8,hvb8,-,-,-⟩:=q8.ob.form;have hb8:Blk w8 g8 323 #[.int .i64 0,.int .i64 0,x8.vl,.pointer (some ⟨x8.gh,0,none⟩),.int .i64 0,x8.vb,.pointer (x8.ck.map fun k=>⟨k,0,none⟩),.int .i64 0]:=q8.blk
  rw[hck,hvl8,hvb8]at hb8;have HCK:=Lib.hid hck;have HVL:=Lib.hid hvl8;have HVB:=Lib.hid hvb8;clear hck hvl8 hvb8;obtain⟨j0,j1,j2,j3,j4,j5,j6,j7,-,-,-,-,-,-,-,-⟩:=Blk.c8 hb8;have hkb:=k8.blk;unfold aF at hkb;obtain⟨g0,g1,g2,g3,g4,g5,g6,g7,f0',f1',f2',f3',f4',f5',f6',f7'⟩:=Blk.c8 hkb;obtain⟨⟨b0,b1,b2,b3,b4,b5,b6,b7,b8,b9⟩,l0,l1,l2,l3,l4,l5,l6,l7,l8,l9⟩:=B8.c10;obtain⟨⟨r0,r1,r2,r3,r4,r5,r6,r7,r8,r9⟩,s0,s1,s2,s3,s4,s5,s6,s7,s8,s9⟩:=R8.c10;have hg8:W6.heap.size<= g8:=hS8 g8 (.inl rfl);have hW6:W.heap.size<= W6.heap.size:=L7.size;have n7: ¬g=g8:=by omega
  have n8: ¬g8=g:=by omega
  have n9: ¬w.heap.size=g8:=by omega
  have n10: ¬g8=w.heap.size:=by omega
  have n11: ¬rb=g8:=by have:=B7'.lt;omega
  have n12: ¬g8=rb:=by have:=B7'.lt;omega
  have Lall:Below w.heap.size w w8:=stepW (stepW (stepW LR L2) L7) L8;have O7':=O7;clear k7 B7' R7 O7 L2 BR LR hVR kR;have e0:Value.slice Al8 (List.length p0.line) cl8= .slice Al8 0 cl8:=rfl;have e1:Value.slice Ab8 (List.length p0.body) cb8= .slice Ab8 0 cb8:=rfl;rw[e0]at j2;rw[e1]at j5;have G9:=hkb.set8 (.int .i64 0) (.int .i64 0) (.slice Al8 0 cl8) (.pointer (some ⟨x8.gh,0,none⟩)) (.int .i64 0) (.slice Ab8 0 cb8) (.pointer none) (.int .i64 0);have F9:=YV (S:=fun k=>k=g) (Fr.refl _ w8) rfl (.int .i64 0) (.int .i64 0) (.slice Al8 0 cl8) (.pointer (some ⟨x8.gh,0,none⟩)) (.int .i64 0) (.slice Ab8 0 cb8) (.pointer none) (.int .i64 0)
  clear e0 e1 b0 b1 b2 b3 b4 b5 b6 b7 b8 b9 l0 l1 l2 l3 l4 l5 l6 l7 l8 l9 r0 r1 r2 r3 r4 r5 r6 r7 r8 r9 s0 s1 s2 s3 s4 s5 s6 s7 s8 s9;go_upto_region 7 with(fail)
  generalize ((((((((w8.setCell ⟨g,0,none⟩ (.int .i64 0)).setCell ⟨g,1,none⟩ (.int .i64 0)).setCell ⟨g,2,none⟩ (.slice Al8 0 cl8)).setCell ⟨g,3,none⟩ (.pointer (some ⟨x8.gh,0,none⟩))).setCell ⟨g,4,none⟩ (.int .i64 0)).setCell ⟨g,5,none⟩ (.slice Ab8 0 cb8)).setCell ⟨g,6,none⟩ (.pointer none)).setCell ⟨g,7,none⟩ (.int .i64 0))=D at G9 F9⊢;have B9:=B8.fr F9 n2;have R9:=R8.fr F9 n4;obtain⟨⟨b0,b1,b2,b3,b4,b5,b6,b7,b8,b9⟩,l0,l1,l2,l3,l4,l5,l6,l7,l8,l9⟩:=B9.c10;obtain⟨⟨r0,r1,r2,r3,r4,r5,r6,r7,r8,r9⟩,s0,s1,s2,s3,s4,s5,s6,s7,s8,s9⟩:=R9.c10;clear g0 g1 g2 g3 g4 g5 g6 g7 f0' f1' f2' f3' f4' f5' f6' f7' j0 j1 j2 j3 j4 j5 j6 j7 B8 R8 hkb n7 n8 n9 n10 n11 n12 B9;go_wp2
  have T9:=R9.ZI (sv p.head.method) (.int .i64 p.head.tgt.form) (sv p.head.tgt.host) (sv p.head.tgt.path) (sv p.head.tgt.query) (.int .i64 p.head.minor) (.slice AF p.head.bJ.length cF) (.slice Ab p.body.length cb) (.bool p.head.how.close) (.bool p.head.how.expect);have F10:=Ju (S:=fun k=>k=w.heap.size) (Fr.refl _ D) rfl (sv p.head.method) (.int .i64 p.head.tgt.form) (sv p.head.tgt.host) (sv p.head.tgt.path) (sv p.head.tgt.query) (.int .i64 p.head.minor) (.slice AF p.head.bJ.length cF) (.slice Ab p.body.length cb) (.bool p.head.how.close) (.bool p.head.how.expect)
  rw[show Value.string { data:=p.head.method.toArray } =sv p.head.method from rfl,show Value.string { data:=p.head.tgt.host.toArray } =sv p.head.tgt.host from rfl,show Value.string { data:=p.head.tgt.path.toArray } =sv p.head.tgt.path from rfl,show Value.string { data:=p.head.tgt.query.toArray } =sv p.head.tgt.query from rfl]
  generalize ((((((((((D.setCell ⟨w.heap.size,0,none⟩ (sv p.head.method)).setCell ⟨w.heap.size,1,none⟩ (.int .i64 p.head.tgt.form)).setCell ⟨w.heap.size,2,none⟩ (sv p.head.tgt.host)).setCell ⟨w.heap.size,3,none⟩ (sv p.head.tgt.path)).setCell ⟨w.heap.size,4,none⟩ (sv p.head.tgt.query)).setCell ⟨w.heap.size,5,none⟩ (.int .i64 p.head.minor)).setCell ⟨w.heap.size,6,none⟩ (.slice AF p.head.bJ.length cF)).setCell ⟨w.heap.size,7,none⟩ (.slice Ab p.body.length cb)).setCell ⟨w.heap.size,8,none⟩ (.bool p.head.how.close)).setCell ⟨w.heap.size,9,none⟩ (.bool p.head.how.expect))=E at T9 F10⊢;obtain⟨⟨t0,t1,t2,t3,t4,t5,t6,t7,t8,t9⟩,-⟩:=T9.c10;have hOE:=Own.fr (Own.fr O8 F9 fun k hk e=>by have:=(Own.lt O8 k hk).1;omega) F10 fun k hk e=>by have:=(Own.lt O8 k hk).1;omega
  obtain⟨-,-,hrF⟩:=Own.rdS hOE;have hob:=k8.ob;have ht2:=k8.t2;have hlt2: ∀i,x.vb.ownBlock=some i-> i<w.heap.size:=fun i hi=>k.lt (.inr (.inr (.inl hi)))
  have hpS: ∀i,x.vb.ownBlock=some i-> pS g x i/\ i≠g:=fun i hi=>⟨.inr (.inr (.inl hi)),fun e=>by have h1:=ht2 i hi;rw[e,k8.t0]at h1;cases h1⟩
  rw[hvb]at hob hlt2 hpS;have hBE:=Own.fr (Own.fr hob F9 fun i hi e=>(hpS i hi).2 e) F10 fun i hi e=>by have:=hlt2 i hi;omega
  obtain⟨-,-,hrB⟩:=Own.rdS hBE;have F9':Fr (fun k=>k=g\/ k=w.heap.size) w8 D:=F9.mono fun k hk=>.inl (.inl hk)
  have F10':Fr (fun k=>k=g\/ k=w.heap.size) D E:=F10.mono fun k hk=>.inl (.inr hk)
  have h8: ∀k,pS g8 x8 k-> W6.heap.size<= k:=hS8;obtain⟨x2,hx2,hS2⟩:=q8.move (F9'.trans F10' fun k hk=>.inl hk) (fun k hk he=>by have:=h8 k hk;rcases he with e|e<;>omega) (g:=g) ((G9.fr F10 n3).to (by unfold aF;rw[HCK.out,HVL.out,HVB.out];rfl)) (fun hk=>by have:=h8 g hk;omega)
  refine bodyPost_ret (v:=.tuple #[MH p.head.method p.head.tgt p.head.minor (.slice AF p.head.bJ.length cF) (.slice Ab p.body.length cb) p.head.how.close p.head.how.expect,.int .i64 0]) (by simp[results,Tryz.results251,go_sem,t0,t1,t2,t3,t4,t5,t6,t7,t8,t9]) rfl ⟨AF,cF,Ab,cb,rfl,hrF,fun h0 a ha=> ?_,hrB,fun h0 a ha=>hpS _ (Own.VZ hob h0 a ha),pS g x2,⟨x2,rfl,hx2⟩,⟨?_,fun k hk=> ?_⟩,fun k hk=> ?_⟩
  ·have:=(Own.lt O8 _ (Own.VZ O8 h0 a ha)).1;omega
  ·exact(((Fr.dB Lall).mono fun k hk=>.inr hk).trans F9 fun k hk=>.inl (.inl hk)).trans F10 fun k hk=>.inr (Nat.le_of_eq hk.symm)
  ·rcases hS2 k hk with h9|h9
   ·exact .inl (.inl h9)
   ·have:=h8 k h9;exact .inr (by omega)
  ·rcases hS2 k hk with h9|h9
   ·exact .inl h9
   ·have h10:=h8 k h9
    refine .inr ⟨by omega,fun a ha h0 e=> ?_⟩
    have:=Own.lt2 O7' (Own.VZ O7' h0 a ha);omega
end Go.Proofs.YtdmondfpepbniaaGreatDoor
