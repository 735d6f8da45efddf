/- Part 23 of the proof: RowB ReF VnF. -/
import Derived.Test.YtdmondfpepbniaaGreatDoorQ22
namespace Go.Proofs.YtdmondfpepbniaaGreatDoor
open Go.RowKit
set_option maxRecDepth 100000
set_option maxHeartbeats 4000000
set_option linter.all false
theorem Y0:(Tryz.prog.info? 33).map (fun i=>(i.zero,i.size,i.bytes))=some (some (.slice none 0 0),1,24):=by kernel_rfl
def OPs (w:World) (base:Nat) (v:Value) (ps:List Bs):Prop:=
 ∃vs:List Value,Own w base 33 1 v ps.length vs/\ ∀(i:Nat) (p:Bs),ps[i]? = some p-> ∃(Ai:Option Addr) (ci:Nat),vs[i]? = some (Value.slice Ai p.length ci)/\ Rd w w.heap.size 1 Ai p.length (p.map bv)/\ (0<p.length-> ∀a,Ai=some a-> v.ownBlock≠some a.block)
theorem OPs.nil (w:World) (base:Nat):OPs w base (.slice none 0 0) []:=⟨[],Own.nil w base _ 1,fun i p hp=>by simp at hp⟩
theorem OPs.ah {w w':World} {base:Nat} {v:Value} {ps:List Bs} (h:OPs w base v ps) (hb:Below w.heap.size w w'):OPs w' base v ps:=by
 obtain⟨vs,h1,h2⟩:=h;refine⟨vs,h1.ah hb,fun i p hp=> ?_⟩
 obtain⟨Ai,ci,e,hr,hn⟩:=h2 i p hp;exact⟨Ai,ci,e,(hr.ah (Nat.le_refl _) hb).more hb.size,hn⟩
theorem OPs.form {w:World} {base:Nat} {v:Value} {ps:List Bs} (h:OPs w base v ps): ∃A c,v= .slice A ps.length c/\ RdS w w.heap.size A ps.length ps:=by
 obtain⟨vs,h1,h2⟩:=h;obtain⟨A,c,e,-,-,hr,-⟩:=h1.rd;refine⟨A,c,e,vs,hr,rfl,fun i p hp=> ?_⟩
 obtain⟨Ai,ci,e,hr,-⟩:=h2 i p hp;exact⟨Ai,ci,e,hr⟩
theorem OPs.lt {w:World} {base:Nat} {v:Value} {ps:List Bs} (h:OPs w base v ps) {k:Nat} (hk:v.ownBlock=some k):k<w.heap.size:=by
 obtain⟨vs,h1,h2⟩:=h;exact Own.lt2 h1 hk
theorem OPs.ext {w w':World} {base:Nat} {v v':Value} {ps:List Bs} (h:OPs w base v ps) (hx:Ext w w' v v') (hs:base<= w.heap.size):Below base w w':=by
 obtain⟨vs,h1,h2⟩:=h;exact hx.below h1 (Nat.le_refl _) hs
theorem Wi {ops:Array Oper} {rest:List Oper} {o:Oper} {a:Act} {Q:Exit-> Act-> World-> Prop} {w0:World} (hgd:o.guard=none) (s x:Operand)
 (ho:o.op= .call { callee:=.builtin .append,args:=#[s,x],argTypes:=#[107,107] })
 (base:Nat) (v:Value) (ps:List Bs) (hs:a.eval s=v) (hown:OPs w0 base v ps) (g:Nat) (hg:g=w0.heap.size) (A:Option Addr) (m c:Nat) (p:Bs) (hpm:p.length=m) (hx:a.eval x= .slice (some ⟨g,0,none⟩) 1 1)
 (hr:Rd w0 w0.heap.size 1 A p.length (p.map bv)) (hne:0<p.length-> ∀b,A=some b-> v.ownBlock≠some b.block)
 (hlen:ps.length+1<= 1000000) (hbase:base<= w0.heap.size)
 (h: ∀v' w',OPs w' base v' (ps++ [p])-> Ext w0 w' v v'-> wpList Tryz.prog ops Q rest (a.put o.dst v') w'):wpList Tryz.prog ops Q (o::rest) a (w0.alloc (.cells #[.slice A m c] 33)):=by
 subst hpm;obtain⟨i0,hi,hz0,hz1,hz2⟩:=info_parts Y0;subst hg;obtain⟨vs,hown,hrd⟩:=hown;have hvl:vs.length=ps.length:=by simpa using hown.1
 refine aJ _ hgd s x 107 107 ho base 33 i0 _ 1 24 Tryz.underlying107 (.inl Tryz.underlying107) hi hz0 hz1 hz2 rfl (by decide) v ps.length _ hs (hown.alloc _) _ 1 [.slice A p.length c] hx (Src.fB (Rd.new w0 _ rfl [.slice A p.length c] _ 1 1 rfl) (by intro u hu;simp at hu;subst hu;rfl)) (by unfold maxLen;omega) (by omega) (Nat.le_trans hbase (by simp)) ?_
 intro v' w' ho' hg' ha;have hx2:Ext w0 w' v v':=oH (aj (Below.refl _ _) _) hg' ha;have keep: ∀(Ai:Option Addr) (q:Bs),Rd w0 w0.heap.size 1 Ai q.length (q.map bv)->(0<q.length-> ∀b,Ai=some b-> v.ownBlock≠some b.block)-> Rd w' w'.heap.size 1 Ai q.length (q.map bv)/\ (0<q.length-> ∀b,Ai=some b-> v'.ownBlock≠some b.block):=by
  intro Ai q hq hn;refine⟨(hq.frm (Nat.le_refl _) hx2.fr fun h0 b hb=>hn h0 b hb).more hx2.fr.size,fun h0 b hb hv=> ?_⟩
  obtain⟨b1,o1,e1,hlt,-⟩:=hq.2 h0;have e2:=e1;rw[hb]at e2;injection e2 with e2
  subst e2;rcases hx2.own _ hv with h1|h1
  ·exact hn h0 _ hb h1
  ·simp only at h1;omega
 refine h v' w' ⟨vs++ [.slice A p.length c],by rw[List.length_append];exact ho',fun i q hq=> ?_⟩ hx2
 rcases Nat.lt_or_ge i ps.length with hi|hi
 ·rw[List.getElem?_append_left hi]at hq
  obtain⟨Ai,ci,e,h1,h2⟩:=hrd i q hq;obtain⟨k1,k2⟩:=keep Ai q h1 h2;exact⟨Ai,ci,by rw[List.getElem?_append_left (by omega)];exact e,k1,k2⟩
 ·have hi2:i=ps.length:=by
   have:=(List.getElem?_eq_some_iff.1 hq).1;simp at this;omega
  subst hi2;obtain rfl:p=q:=by simpa using hq
  obtain⟨k1,k2⟩:=keep A p hr hne;exact⟨A,c,by rw[List.getElem?_append_right (by omega),hvl];simp,k1,k2⟩
theorem OB.apart {w:World} {base:Nat} {A:Option Addr} {c:Nat} {l:Bs} {S:Nat-> Prop} (h:OB w base (.slice A l.length c) l) (hS: ∀k,S k-> k<base):0<l.length-> ∀a,A=some a-> ¬S a.block:=by
 intro hn a ha hs;obtain⟨g,cap,e,hg,-,-⟩:=Own.form h hn;injection e with e1 e2 e3
 rw[e1]at ha;injection ha with ha
 subst ha;have:=hS _ hs;simp only at this;omega
structure RB (w:World) (g:Nat) (x:RsP):Prop where
 blk:Blk w g 54 #[.int .i64 x.r.st,.slice x.af x.r.f.length x.cf,.slice x.ab x.r.b.length x.cb,.slice x.ap x.r.p.length x.cp]
 row:RsR w x
theorem RB.ah {w w':World} {g:Nat} {x:RsP} (h:RB w g x) (hb:Below w.heap.size w w'):RB w' g x:=⟨h.blk.ah hb,h.row.ah hb⟩
structure RsZ (x:RsP):Prop where
 fs:oJ x.r.f
 f:x.r.f.length<= 1000000
 b:x.r.b.length<= 1000000
 p:x.r.p.length<= 1000000
theorem MN {l:List Fd} {k:Nat} {f:Fd} (hd:l.drop k=f::l.drop (k+1)):uh (l.drop k)=(!lH f.1&&uh (l.drop (k+1))):=by
 rw[hd];rfl
theorem Jy (n:Nat) (last a:Int) (l:List Int) (h:a<= last\/ (n:Int)<a):jZ n last (a::l)=none:=by rw[jZ,if_pos h]
theorem QC (n:Nat) (last a:Int) (l:List Int) (h: ¬(a<= last\/ (n:Int)<a)):jZ n last (a::l)=jZ n a l:=by rw[jZ,if_neg h]
theorem Wj (r:Rs) (h:Dk r=false):dh r=false:=by rw[dh,h];rfl
theorem Jz (r:Rs) (h:PY r.f=false):dh r=false:=by rw[dh,h,Bool.false_and,Bool.and_false]
theorem MO (r:Rs) (h:Dk r=true) (h2:PY r.f=true):dh r=(uh r.f&&AQ r.b.length r.p):=by rw[dh,h,h2,Bool.true_and,Bool.true_and]
theorem QD (x:RsP) (w:World) (hR:RsR w x) (hZ:RsZ x):
 Calls Tryz.prog 191 #[rsW x] w fun e w'=>e= .returned (.bool (dh x.r))/\ Below w.heap.size w w':=by
 obtain⟨r,Af,cf,Ab,cb,Ap,cp⟩:=x;have hzf:r.f.length<= 1000000:=hZ.f;have hzb:r.b.length<= 1000000:=hZ.b;have hzp:r.p.length<= 1000000:=hZ.p;have hzs:oJ r.f:=hZ.fs;show Calls Tryz.prog 191 #[.agg #[.int .i64 r.st,.slice Af r.f.length cf,.slice Ab r.b.length cb,.slice Ap r.p.length cp]] w fun e w'=>e= .returned (.bool (dh r))/\ Below w.heap.size w w'
 go_enter Tryz.func191,Tryz.ntmps191
 go_upto_region 1 with(fail)
 obtain⟨V,hV⟩: ∃V,V=w.alloc (.cells #[.int .i64 r.st,.slice Af r.f.length cf,.slice Ab r.b.length cb,.slice Ap r.p.length cp] 54):=⟨_,rfl⟩;rw[<- hV];have LV:Below w.heap.size w V:=by rw[hV];exact aj (Below.refl _ _) _
 have BV:Blk V w.heap.size 54 #[.int .i64 r.st,.slice Af r.f.length cf,.slice Ab r.b.length cb,.slice Ap r.p.length cp]:=by rw[hV];exact Blk.new' _ _ rfl _ _
 clear hV;have RV:RB V w.heap.size ⟨r,Af,cf,Ab,cb,Ap,cp⟩:=⟨BV,hR.ah LV⟩;obtain⟨x0,x1,x2,x3,z0,z1,z2,z3⟩:=BV.c4;by_cases hst:Dk r=true
 ·have hst': ¬r.st<200/\ ¬599<r.st/\ (r.b.length=0\/ (0<r.b.length/\ bW r.st=false)):=by
   by_cases h1:r.st<200
   ·simp[Dk,h1]at hst
   ·by_cases h2:599<r.st
    ·simp[Dk,h2]at hst
    ·refine⟨h1,h2,?_⟩
     by_cases h3:0<r.b.length
     ·exact .inr ⟨h3,by simpa [Dk,h1,h2,h3] using hst⟩
     ·exact .inl (by omega)
  have HST:=Lib.hid hst;obtain⟨h1,h2,h3⟩:=hst';clear hst;go_cut [28] (fun v28 wx=>v28= .bool false/\ V=wx)
  case first=>
   rcases h3 with h3| ⟨h3,h4⟩
   ·have h5: ¬(0:Int)< (r.b.length:Int):=by omega
    clear h3;go_wp2_with fail
    go_meet
    case rel=>exact⟨rfl,rfl⟩
   ·have h3':(0:Int)< (r.b.length:Int):=by omega
    have hnb:=fun w=>jy r.st w
    rw[h4]at hnb;go_wp2_with fail
    refine(hnb _).mono ?_;rintro e w1 ⟨rfl,rfl⟩;go_wp2_with fail
    go_meet
    case rel=>exact⟨rfl,rfl⟩
  case rest=>
   obtain⟨rfl,rfl⟩:=hcut;have hnil:(lG [] [] 0).1=([]:List Fd):=rfl;have hO:=fun w=>TU 0 0 none [] w ⟨rfl,fun h=>absurd h (by decide)⟩ (fun f hf=>by cases hf) (by decide)
   rw[hnil]at hO;have hA0: ∀(w2:World) (gf:Nat) (v:Value) (L2:Below V.heap.size V w2) (hF:FA w2 347 gf V.heap.size v []),Calls Tryz.prog 244 #[.pointer (some ⟨gf,0,none⟩),.slice Af r.f.length cf] w2 (vO 347 w2 gf V.heap.size v (lG [] r.f 0)):=by
    intro w2 gf v L2 hF;have hr:Rd w2 V.heap.size 2 Af r.f.length (aQ r.f):=RV.row.rf.below L2;refine FX gf V.heap.size r.f.length cf V.heap.size Af v [] r.f w2 hF hr L2.size (hr.off ?_) hzs (Nat.zero_le _) L2.size (by omega)
    intro i hi;rcases hi with h|h
    ·rw[h];exact hF.lo
    ·exact(Own.lt hF.own i h).1
   have S0:V.cell? ⟨w.heap.size,1,none⟩=some (.slice Af r.f.length cf):=x1;have HS: ∀w',Below V.heap.size V w'-> w'.cell? ⟨w.heap.size,1,none⟩=some (.slice Af r.f.length cf)/\ w'.frozen? ⟨w.heap.size,1,none⟩=false:=by
    intro w' hb;obtain⟨-,h1,-,-,-,h2,-,-⟩:=(BV.ah hb).c4;exact⟨h1,h2⟩
   unfold vO TR at hA0;generalize hadd:lG [] r.f 0=ad at*;obtain⟨l9,n9,e9⟩:=ad;go_wp2_with fail
   go_region_held3 (fun w'=>w'.cell? ⟨w.heap.size,1,none⟩=some (.slice Af r.f.length cf)/\ w'.frozen? ⟨w.heap.size,1,none⟩=false)
    (first|go_keep|with_reducible exact⟨x1,z1⟩|with_reducible exact X4|with_reducible exact X5)
    (first
      | (go_at_call 243
         refine(hO _).mono ?_;rintro e w4 ⟨⟨gf,vf,rfl,hF4⟩,L4⟩;have N4:=stepW (Below.refl V.heap.size V).drew L4
         have X4:=HS _ N4)
      | (go_at_call 244
         refine(hA0 _ _ _ N4 hF4).mono ?_;rintro e w5 ⟨rfl,-,hfr⟩
         have N5:Below V.heap.size V w5:=N4.trans (hfr.toBelow N4.size (by
          intro i hi;rcases hi with h|h
          ·rw[h];exact hF4.lo
          ·exact(Own.lt hF4.own i h).1))
         have X5:=HS _ N5))
   have HFD:=Lib.hid (show PY r.f= !(decide (n9<r.f.length)||decide (e9≠0)) by rw[PY,hadd])
   have R5:=RV.ah N5;clear hA0 hO hadd X4 X5 N4 L4 hF4 hfr HS S0 hnil x0 x1 x2 x3 z0 z1 z2 z3 BV h3;by_cases c1:n9<r.f.length
   ·have HI:=Lib.hid (Jz r (by rw[HFD.out,decide_eq_true c1];rfl))
    have c1':(n9:Int)< (r.f.length:Int):=by omega
    go_wp2_with fail
    go_ret
    exact⟨by rw[HI.out];rfl,stepW LV N5⟩
   ·have c1': ¬(n9:Int)< (r.f.length:Int):=by omega
    by_cases c2:e9=0
    ·have HI:=Lib.hid (MO r HST.out (by rw[HFD.out,decide_eq_false c1,c2];rfl))
     subst c2;clear HFD HST;obtain⟨x0,x1,x2,x3,z0,z1,z2,z3⟩:=R5.blk.c4;go_wp2_with fail
     go_loopw [48] (fun i wr=> ∃k:Nat,k<= r.f.length/\ i= .int .i64 k/\ Hid (uh r.f=uh (r.f.drop k))/\ Below V.heap.size V wr) (fun i _=>r.f.length- (intOf i).toNat)
     case atStart=>exact⟨0,Nat.zero_le _,rfl,rfl,N5⟩
     case round=>
      obtain⟨k,hk,rfl,H,N⟩:=hrel;have Rk:=RV.ah N;by_cases hlt:k<r.f.length
      ·obtain⟨f,hf,hd⟩:=zk hlt
       obtain⟨s1,s2⟩:=hzs.at hf;have hO:=fun w=>oL f.1 w s1
       have H2:=Lib.hid (H.out.trans (MN hd));obtain⟨b,o,rfl,hbB,y0,y1⟩:=Rd.fd (show Rd wr wr.heap.size 2 Af r.f.length (aQ r.f)from Rk.row.rf) rfl k f hf
       clear hf hd H;go_wp2_with fail
       obtain⟨W,hW⟩: ∃W,W=wr.alloc (.cells #[sv f.1,sv f.2] 86):=⟨_,rfl⟩;rw[<- hW];have LW:Below wr.heap.size wr W:=by rw[hW];exact aj (Below.refl _ _) _
       clear hW y0 y1;refine(hO W).mono ?_;rintro e w1 ⟨rfl,L1⟩;have N1:=stepW (stepW N LW) L1;cases hown:lH f.1
       ·have H3:=Lib.hid (show uh r.f=uh (r.f.drop (k+1)) by rw[H2.out,hown];rfl)
        clear hown;go_wp2
        go_roundw
        case rel=>exact⟨k+1,by omega,by go_num,H3,N1⟩
        case measure=>simp[intOf];omega
       ·have H3:=Lib.hid (show uh r.f=false by rw[H2.out,hown];rfl)
        clear hown;go_wp2
        go_ret
        exact⟨by rw[HI.out,H3.out];rfl,stepW LV N1⟩
      ·have hT:=Lib.hid (show dh r=AQ r.b.length r.p by rw[HI.out,H.out,List.drop_of_length_le (by omega)];rfl)
       obtain rfl:k=r.f.length:=by omega
       clear x0 x2 x3 z0 z1 z2 z3 HI H;obtain⟨x0,x1,x2,x3,z0,z1,z2,z3⟩:=Rk.blk.c4;go_wp2_with fail
       go_loopw [7,59] (fun x7 i wx=> ∃(k:Nat) (last:Int),k<= r.p.length/\ i= .int .i64 k/\ x7= .int .i64 last/\ Hid (jZ r.b.length 0 r.p=jZ r.b.length last (r.p.drop k))/\ wr=wx) (fun _ i _=>r.p.length- (intOf i).toNat)
       case atStart=>exact⟨0,0,Nat.zero_le _,rfl,rfl,rfl,rfl⟩
       case round=>
        obtain⟨k,last,hk,rfl,rfl,H,rfl⟩:=hrel;by_cases hlt:k<r.p.length
        ·obtain⟨a,ha,hd⟩:=nH r.p k hlt
         obtain⟨b,o,rfl,hbB,hy⟩:=(show Rd wr wr.heap.size 1 Ap r.p.length (r.p.map fun i=>Value.int .i64 i)from Rk.row.rp).2 (by omega)
         have y:=hy k (.int .i64 a) (zl _ _ _ _ ha);have H2:=Lib.hid (show jZ r.b.length 0 r.p=jZ r.b.length last (a::r.p.drop (k+1)) by rw[H.out,hd])
         clear ha hd H hy;by_cases c3:a<= last
         ·have H3:=Lib.hid (H2.out.trans (Jy _ _ _ _ (.inl c3)))
          go_wp2
          go_ret
          exact⟨by rw[hT.out,AQ,H3.out];rfl,stepW LV N⟩
         ·by_cases c4:(r.b.length:Int)<a
          ·have H3:=Lib.hid (H2.out.trans (Jy _ _ _ _ (.inr c4)))
           go_wp2
           go_ret
           exact⟨by rw[hT.out,AQ,H3.out];rfl,stepW LV N⟩
          ·have H3:=Lib.hid (H2.out.trans (QC _ _ _ _ (fun h=>h.elim c3 c4)))
           go_wp2
           go_roundw
           case rel=>exact⟨k+1,a,by omega,by go_num,rfl,H3,trivial⟩
           case measure=>simp[intOf];omega
        ·have H3:=Lib.hid (H.out.trans (show jZ r.b.length last (r.p.drop k)=some last by rw[List.drop_of_length_le (by omega)];rfl))
         obtain rfl:k=r.p.length:=by omega
         have hI:=Lib.hid (show dh r=(decide (r.p= [])||decide (last=(r.b.length:Int))) by rw[hT.out,AQ,H3.out])
         clear H H3 hT;by_cases hp0:r.p.length=0
         ·have hI2:=Lib.hid (show dh r=true by rw[hI.out,List.eq_nil_of_length_eq_zero hp0];rfl)
          rw[hp0]at x3;clear hI hp0;go_wp2
          go_ret
          exact⟨by rw[hI2.out];rfl,stepW LV N⟩
         ·have hI2:=Lib.hid (show dh r=decide (last=(r.b.length:Int)) by rw[hI.out,decide_eq_false (fun h=>hp0 (by rw[h];rfl)),Bool.false_or])
          have hq0:((r.p.length:Int)==0)=false:=by rw[Bool.eq_false_iff];intro h;exact hp0 (by have:=beq_iff_eq.1 h;omega)
          clear hI;by_cases c5:last=(r.b.length:Int)
          ·have hI3:=Lib.hid (show dh r=true by rw[hI2.out,decide_eq_true c5])
           rw[c5];clear c5 hI2;go_wp2
           go_ret
           exact⟨by rw[hI3.out];rfl,stepW LV N⟩
          ·have hI3:=Lib.hid (show dh r=false by rw[hI2.out,decide_eq_false c5])
           have c6:(last==(r.b.length:Int))=false:=by simpa using c5
           clear hI2;go_wp2
           go_ret
           exact⟨by rw[hI3.out];rfl,stepW LV N⟩
    ·have HI:=Lib.hid (Jz r (by rw[HFD.out,decide_eq_true c2,Bool.or_true];rfl))
     have c2':(e9==0)=false:=by simpa using c2
     go_wp2_with fail
     go_ret
     exact⟨by rw[HI.out];rfl,stepW LV N5⟩
 ·have hst':Dk r=false:=by simpa using hst
  have HI:=Lib.hid (Wj r hst');have hor:r.st<200\/ (¬r.st<200/\ 599<r.st)\/ (¬r.st<200/\ ¬599<r.st/\ 0<r.b.length/\ bW r.st=true):=by
   by_cases h1:r.st<200
   ·exact .inl h1
   ·by_cases h2:599<r.st
    ·exact .inr (.inl ⟨h1,h2⟩)
    ·refine .inr (.inr ⟨h1,h2,?_⟩)
     simpa [Dk,h1,h2] using hst'
  clear hst hst';rcases hor with h1| ⟨h1,h2⟩| ⟨h1,h2,h3,h4⟩
  ·go_wp2_with fail
   go_ret
   exact⟨by rw[HI.out];rfl,LV⟩
  ·go_wp2_with fail
   go_ret
   exact⟨by rw[HI.out];rfl,LV⟩
  ·have h3':(0:Int)< (r.b.length:Int):=by omega
   have hnb:=fun w=>jy r.st w
   rw[h4]at hnb;go_wp2_with fail
   refine(hnb _).mono ?_;rintro e w1 ⟨rfl,rfl⟩;go_wp2_with fail
   go_ret
   exact⟨by rw[HI.out];rfl,LV⟩
def He (w:World) (ps:List Bs) (e:Ending) (w':World):Prop:=
 ∃A c,e= .returned (.slice A ps.length c)/\ RdS w' w'.heap.size A ps.length ps/\ Below w.heap.size w w'
structure BL (w:World) (b:Bs) (p:List Int) (a k:Nat) (v:Value) (ps:List Bs) (wr:World):Prop where
 an:a<= b.length
 kz:k<= p.length
 ok:(jZ b.length a (p.drop k)).isSome=true
 pk:ps.length=k
 eq:iF b 0 p=ps++iF b a (p.drop k)
 own:OPs wr w.heap.size v ps
 below:Below w.heap.size w wr
theorem Wn {n:Nat} {last a:Int} {l:List Int} (h:(jZ n last (a::l)).isSome=true):last<a/\ a<=(n:Int)/\ (jZ n a l).isSome=true:=by
 rw[jZ]at h;split at h
 ·cases h
 ·rename_i h9
  exact⟨by omega,by omega,h⟩
theorem BL.next {w:World} {b:Bs} {p:List Int} {a k:Nat} {v:Value} {ps:List Bs} {wr:World} (h:BL w b p a k v ps wr) (hk:k<p.length):
 ∃z:Nat,p[k]? = some (z:Int)/\ a<z/\ z<= b.length/\ (((b.drop a).take (z-a)).length=z-a)/\
  ∀(v':Value) (wr':World),OPs wr' w.heap.size v' (ps++ [(b.drop a).take (z-a)])-> Ext wr wr' v v'-> BL w b p z (k+1) v' (ps++ [(b.drop a).take (z-a)]) wr':=by
 obtain⟨x,hx,hd⟩:=nH p k hk;have ho:=h.ok;rw[hd]at ho;obtain⟨h1,h2,h3⟩:=Wn ho;obtain⟨z,rfl⟩: ∃z:Nat,x=(z:Int):=⟨x.toNat,by omega⟩
 refine⟨z,hx,by omega,by omega,by rw[List.length_take,List.length_drop];omega,fun v' wr' ho' hx'=>⟨by omega,by omega,h3,by rw[List.length_append,h.pk];rfl,?_,ho',h.below.trans (h.own.ext hx' h.below.size)⟩⟩
 rw[h.eq,hd,iF,List.append_assoc,Int.toNat_natCast,Int.toNat_natCast,List.drop_take];rfl
theorem BL.rd {w:World} {b:Bs} {p:List Int} {a k:Nat} {v:Value} {ps:List Bs} {wr:World} (h:BL w b p a k v ps wr) {A:Option Addr} (hA:Rd w w.heap.size 1 A b.length (b.map bv)) (m:Nat) (hm:m<= b.length-a):
 Rd wr wr.heap.size 1 (A.map (·.add a)) m (((b.drop a).take m).map bv)/\ (0<m-> ∀x,A.map (·.add a)=some x-> v.ownBlock≠some x.block):=by
 have h1:=((hA.cutFrom (k:=a) h.an).zI (k:=m) hm);rw[Nat.mul_one,Nat.mul_one,<- List.map_drop,<- List.map_take]at h1;refine⟨(h1.below h.below).more h.below.size,fun h0 x hx hv=> ?_⟩
 obtain⟨b1,o1,e1,hlt,-⟩:=h1.2 h0;rw[hx]at e1;injection e1 with e1
 obtain⟨vs,ho,-⟩:=h.own;have:=(Own.lt ho _ hv).1;rw[e1]at this;simp only at this;omega
def OffB (v:Value) (n:Nat) (A:Option Addr):Prop:=0<n-> ∀x,A=some x-> v.ownBlock≠some x.block
theorem QE (x:RsP) (w:World) (hR:RsR w x) (hZ:RsZ x) (hok:(jZ x.r.b.length 0 x.r.p).isSome=true):
 Calls Tryz.prog 195 #[rsW x] w (He w (iF x.r.b 0 x.r.p)):=by
 obtain⟨r,Af,cf,Ab,cb,Ap,cp⟩:=x;have hzb:r.b.length<= 1000000:=hZ.b;have hzp:r.p.length<= 1000000:=hZ.p;have hcb:r.b.length<= cb:=hR.cb;have hrb:Rd w w.heap.size 1 Ab r.b.length (r.b.map bv):=hR.rb;have hrp:Rd w w.heap.size 1 Ap r.p.length (r.p.map fun i=>Value.int .i64 i):=hR.rp
 show Calls Tryz.prog 195 #[.agg #[.int .i64 r.st,.slice Af r.f.length cf,.slice Ab r.b.length cb,.slice Ap r.p.length cp]] w (He w (iF r.b 0 r.p));have hok':(jZ r.b.length 0 r.p).isSome=true:=hok;clear hok hR hZ;go_enter Tryz.func195,Tryz.ntmps195
 go_upto_region 1 with(fail)
 obtain⟨V,hV⟩: ∃V,V=w.alloc (.cells #[.int .i64 r.st,.slice Af r.f.length cf,.slice Ab r.b.length cb,.slice Ap r.p.length cp] 54):=⟨_,rfl⟩;rw[<- hV];have LV:Below w.heap.size w V:=by rw[hV];exact aj (Below.refl _ _) _
 have BV:Blk V w.heap.size 54 #[.int .i64 r.st,.slice Af r.f.length cf,.slice Ab r.b.length cb,.slice Ap r.p.length cp]:=by rw[hV];exact Blk.new' _ _ rfl _ _
 clear hV;obtain⟨x0,x1,x2,x3,z0,z1,z2,z3⟩:=BV.c4;have hbV:Rd V V.heap.size 1 Ab r.b.length (r.b.map bv):=(hrb.below LV).more LV.size;have hpV:Rd V V.heap.size 1 Ap r.p.length (r.p.map fun i=>Value.int .i64 i):=(hrp.below LV).more LV.size
 have H0:BL V r.b r.p 0 0 (.slice none 0 0) [] V:=⟨Nat.zero_le _,Nat.zero_le _,hok',rfl,rfl,OPs.nil _ _,Below.refl _ _⟩;clear hok' hrb hrp;go_wp2_with fail
 go_loopw [3,4,10] (fun x3 x4 x10 wr=> ∃(a k:Nat) (v:Value) (ps:List Bs),v=x3/\ x4= .int .i64 a/\ x10= .int .i64 k/\ BL V r.b r.p a k v ps wr) (fun _ _ x10 _=>r.p.length- (intOf x10).toNat)
 case atStart=>exact⟨0,0,_,[],rfl,rfl,rfl,H0⟩
 case round=>
  obtain⟨a,k,v,ps,hv,rfl,rfl,H⟩:=hrel;subst hv;have hk:=H.kz;have han:=H.an;have hpk:=H.pk;by_cases hlt:k<r.p.length
  ·obtain⟨z,hz,haz,hzl,hpl,hN⟩:=H.next hlt
   obtain⟨hr,hne⟩:=H.rd hbV (z-a) (by omega)
   obtain⟨b1,o1,rfl,hb1,hy⟩:=(hpV.below H.below).2 (by omega)
   have y1:=hy k (.int .i64 (z:Int)) (zl _ _ _ _ hz);obtain⟨b2,o2,rfl,hb2,hy2⟩:=hbV.2 (by omega)
   obtain⟨q0,q1,q2,q3,p0,p1,p2,p3⟩:=(BV.ah H.below).c4;rw[Option.map_some,gu]at hr hne;obtain⟨P,hP⟩: ∃P,P=(r.b.drop a).take (z-a):=⟨_,rfl⟩;rw[<- hP]at hpl hr hN;rw[<- hpl]at hr hne;have hof:OffB v P.length (some ⟨b2,o2+a,none⟩):=hne;have HPL:=Lib.hid hpl;have hsz:=H.below.size;have hzc:z<= cb:=by omega
   clear hy hy2 hz hpl hne hP x0 x1 x2 x3 z0 z1 z2 z3
   go_upto_region 7 with(first
    | (at_builtin
       refine Wi rfl _ _ rfl V.heap.size v ps rfl H.own wr.heap.size rfl (some ⟨b2,o2+a,none⟩) (z-a) (cb-a) P HPL.out rfl hr hof (by omega) H.below.size ?_
       intro v' w' ho' hx'))
   go_wp2_with fail
   go_roundw
   case rel=>exact⟨z,k+1,_,_,rfl,rfl,by go_num,hN _ _ ho' hx'⟩
   case measure=>simp[intOf];omega
  ·have hke:k=r.p.length:=by omega
   have heq:=H.eq;rw[List.drop_of_length_le (l:=r.p) (i:=k) (by omega),iF,List.append_nil]at heq
   have HE:=Lib.hid heq;obtain⟨A9,c9,rfl,hS⟩:=H.own.form;have hb:=H.below;clear heq;go_wp2
   go_ret
   exact⟨A9,c9,by rw[HE.out];rfl,by rw[HE.out];exact hS,LV.trans (hb.mono LV.size)⟩
theorem EJ {ops:Array Oper} {o:Oper} {a:Act} {w:World} {K:Act-> World-> Prop} {Q:Exit-> Act-> World-> Prop} {E:Prop} (hgd:o.guard=none) (s x:Operand)
 (ho:o.op= .call { callee:=.builtin .append,args:=#[s,x],argTypes:=#[33,9] })
 (base:Nat) (v:Value) (l:Bs) (hs:a.eval s=v) (hown:OB w base v l) (m:Bs) (hx:a.eval x=sv m)
 (hlen:l.length+m.length<= 140737488355328) (hbase:base<= w.heap.size)
 (hK: ∀v' w',OB w' base v' (l++m)-> Ext w w' v v'-> K (a.put o.dst v') w'):
 if Region.wanted o (yielded ops a.tmps)=true then Oper.wp Tryz.prog o a w K Q else E:=by
 have hwt:Region.wanted o (yielded ops a.tmps)=true:=by simp[Region.wanted,hgd]
 rw[if_pos hwt];obtain⟨i0,hi,hz0,hz1,hz2⟩:=info_parts lT;obtain⟨v',w',hrun,h2,h3,h4⟩:=gy (P:=Tryz.prog) w base 33 9 o.type 5 i0 _ 1 1 Tryz.underlying33 (.inr Tryz.underlying9) hi hz0 hz1 hz2 rfl (by decide) v l.length _ hown (sv m) m.length _ (Src.of_string (P:=Tryz.prog) (w:=w) m) (by unfold maxLen;omega) (by omega) hbase
 have e:(l.map bv++m.map bv)=(l++m).map bv:=by simp
 rw[e]at h2;have key:=hK v' w' (by unfold OB;rw[List.length_append];exact h2) (oH (Below.refl _ _) h3 h4)
 unfold Oper.wp;simp[execOp,ho,resolve,invoke,builtin,hs,hx,hrun,Result.andThen];exact key
structure BA (w:World) (g base:Nat) (v:Value) (l:Bs):Prop where
 blk:Blk w g 33 #[v]
 own:OB w base v l
 lo:base<= g
 ne:v.ownBlock≠some g
theorem BA.ah {w w':World} {g base:Nat} {v:Value} {l:Bs} (h:BA w g base v l) (hb:Below w.heap.size w w'):BA w' g base v l:=⟨h.blk.ah hb,h.own.ah hb,h.lo,h.ne⟩
theorem BA.app {w1 w3:World} {g base:Nat} {v v':Value} {l l':Bs} (h:BA w1 g base v l) (hx:Ext w1 w3 v v') (ho:OB w3 base v' l'):BA (w3.setCell ⟨g,0,none⟩ v') g base v' l':=by
 have hne: ∀k,v'.ownBlock=some k-> k≠g:=by
  intro k hk hg;subst hg;rcases hx.own k hk with h1|h1
  ·exact h.ne h1
  ·have:=h.blk.lt;omega
 exact⟨(h.blk.fr hx.fr h.ne).ay 0 v',Own.far ho (p:=⟨g,0,none⟩) hne v',h.lo,fun e=>hne g e rfl⟩
theorem BA.below {w w1 w3:World} {g base:Nat} {v v':Value} {l:Bs} (h:BA w1 g base v l) (L:Below base w w1) (hb:base<= w1.heap.size) (hx:Ext w1 w3 v v') (u:Value):Below base w (w3.setCell ⟨g,0,none⟩ u):=
 L.trans ((FA.TP hx u).toBelow hb (by
  intro i hi;rcases hi with h1|h1
  ·rw[h1];exact h.lo
  ·exact(Own.lt h.own i h1).1))
theorem Ext.two {w1 w2 w3:World} {v1 v2 v3:Value} (h:Ext w1 w2 v1 v2) (k:Ext w2 w3 v2 v3) (hs:w1.heap.size<= w2.heap.size):Ext w1 w3 v1 v3:=
 ⟨h.fr.trans k.fr fun i hi=>h.own i hi,fun j hj=>by
   rcases k.own j hj with h1|h1
   ·exact h.own j h1
   ·exact .inr (Nat.le_trans hs h1)⟩
theorem Wp (g base n c B:Nat) (A:Option Addr) (v:Value) (l:Bs) (xs:List ByteArray) (w:World) (hF:BA w g base v l) (hA:Rd w B 1 A n (xs.map Value.string)) (hB:B<= w.heap.size) (hn:n<= 1000000) (hc:n<= c)
 (hb:base<= w.heap.size) (hl:l.length<= 100000000) (hm:(xs.map (·.data.toList)).flatten.length<= 100000000):
 Calls Tryz.prog 192 #[.slice A n c,.pointer (some ⟨g,0,none⟩)] w fun e w'=>e= .returned (.tuple #[])/\ (∃v',BA w' g base v' (l++(xs.map (·.data.toList)).flatten++crlf))/\ Below base w w':=by
 have hJ:=fun(w1:World) (L:Below w.heap.size w w1)=>vH A n c B xs w1 (Nat.le_trans hB L.size) ((hA.below (L.mono hB))) hc (by omega) (by omega)
 go_enter Tryz.func192,Tryz.ntmps192
 obtain⟨x0,z0⟩:=hF.blk.c1;generalize (xs.map (·.data.toList)).flatten=m at*
 obtain⟨lx,hlx⟩: ∃lx,lx=l++m++crlf:=⟨_,rfl⟩;have HL:=Lib.hid hlx.symm;clear hlx;go_wp2_with fail
 go_region_law (first
  | (go_simp;go_at_call 29;refine(hJ _ (Below.refl _ _).drew).mono ?_;rintro e w2 ⟨rfl,L2⟩;have N2:=stepW (Below.refl w.heap.size w).drew L2;have B2:=hF.ah N2;obtain⟨y0,y1⟩:=B2.blk.c1;have hs2:=N2.size)
  | (refine EJ rfl (.tmp 3) (.tmp 5) rfl base v l rfl B2.own m rfl (by omega) (by omega) ?_;intro v3 w3 ho3 hx3;have hs3:=hx3.fr.size;have hb3:=(B2.blk.fr hx3.fr B2.ne).c1;obtain⟨q0,q1⟩:=hb3)
  | (refine EJ rfl (.tmp 6) (.const (.string ⟨#[13,10]⟩)) rfl base v3 (l++m) rfl ho3 crlf rfl (by simp[crlf];omega) (by omega) ?_;intro v4 w4 ho4 hx4;rw[HL.out]at ho4;have hx5:=hx3.two hx4 hs3;have hb4:=(B2.blk.fr hx5.fr B2.ne).c1;obtain⟨r0,r1⟩:=hb4;obtain⟨A4,c4,hv4,-,-,-⟩:=ho4.form;subst hv4))
 all_goals
  go_end0
  exact⟨rfl,⟨_,by rw[HL.out];exact B2.app hx5 ho4⟩,B2.below (N2.mono hb) (by omega) hx5 _⟩
theorem Wq (w:World) (t:Nat-> Nat) (m gn:Nat) (n:cu) (i:Nat) (x:NC) (most:Nat) (l:Bs) (hl:x.inp.take most=l) (h:fP w t m gn n) (hx:n.aG[i]? = some x) (hT:mJ x=true) (hm10:2<= m) (hm:1<= most/\ most<= 1000000) (hp0:0<x.inp.length) (hp1:x.inp.length<= 1000000) (hg:x.told.length<= 100000000):
 Calls Tryz.prog 92 #[pV gn,nV i,nV most] w fun e w'=> ∃A c,e= .returned (.tuple #[.slice A l.length c,.int .i64 0])/\ l.length<= c/\ ∃t',RT w' t' 1 5 1 (.slice A l.length c) l.length (l.map bv)/\ fP w' t' m gn (n.up i fun x=>AV x most)/\ Stp (Mk m 1000) w t w' t':=by
 obtain⟨A,vc,vq,h⟩:=h;have hAt:=BJ w t m gn n A vc vq h i x hx;rw[hT]at hAt;obtain⟨g0,hg0,vi,vg,vt,hk⟩:=h.k i x hx;obtain⟨Ai,ci,rfl,hni,-,hri,-⟩:=hk.i.form;obtain⟨At,ct,rfl,-,-,-,-⟩:=hk.t.form;have j4:w.cell? ⟨g0,4,none⟩=some (.bool x.halved):=hk.b.b.cell 4;have j7:w.cell? ⟨g0,7,none⟩=some (.slice Ai x.inp.length ci):=hk.b.b.cell 7;have i7:w.frozen? ⟨g0,7,none⟩=false:=hk.b.b.frozen 7;have d0:((x.inp.length:Int)==0)=false:=beq_false_of_ne (by omega)
 have d1:decide ((most:Int)<1)=false:=decide_eq_false (by omega)
 have hkp:l.length<= x.inp.length:=by rw[<- hl,List.length_take];omega
 have hk1:1<= l.length:=by rw[<- hl,List.length_take];omega
 have hmin:min (most:Int) (x.inp.length:Int)=(l.length:Int):=by rw[<- hl,List.length_take];omega
 have htk:x.inp.take l.length=l:=by rw[<- hl,List.length_take,<- List.take_take,List.take_length]
 obtain⟨A',c',hc',hsl,yX⟩:=zo ci l.length hri hkp hni;rw[htk]at yX;have hdr:x.inp.drop most=x.inp.drop l.length:=by
  rw[<- hl,List.length_take];rcases Nat.le_total most x.inp.length with h1|h1
  ·rw[Nat.min_eq_left h1]
  ·rw[Nat.min_eq_right h1,List.drop_length,List.drop_eq_nil_of_le h1]
 have HL:=Lib.hid hl;have HD:=Lib.hid hdr;clear hl htk hdr;go_enter Tryz.func92,Tryz.ntmps92
 go_wp2_with fail
 refine hAt.mono ?_;rintro e w1 ⟨⟨g,hg,he⟩,rfl⟩;obtain rfl:e= .returned (.tuple #[pV g,.int .i64 0]):=he;obtain rfl:g0=g:=by rw[hg0]at hg;exact Option.some.inj hg
 clear hAt
 have hCl:=nO A' c' _ l w.drew yX.drew (fun e=>List.eq_nil_of_length_eq_zero (by
  obtain⟨y,o,e2,-⟩:=yX.2 (by omega)
  rw[e]at e2;cases e2)) (by omega)
 go_wp2_with fail
 go_region_with (go_at_call 31;refine hCl.mono ?_;rintro e w2 ⟨v,rfl,ho,L2⟩;obtain⟨A5,c5,rfl,hc5,hc6,hr5⟩:=ho.form)
 all_goals
  have L3:=stepW (Below.refl w.heap.size w).drew L2;have s0:=Stp.dB (t:=t) L3 (fun _=>False) 1
  have rT:=RT.Ik (w0:=w) (show Own w2 w.heap.size 5 1 (.slice A5 l.length c5) l.length (l.map bv)from ho) t 1
  have h2:=h.keep s0 fun _ _ h=>h
  have hb2:=hk.b.keep s0 id;have hi2:=hk.i.keep s0 id;have hg2:=hk.g.keep s0 id;have ht2:=hk.t.keep s0 id;obtain⟨A9,c9,hs9,hi9⟩:=RT.iI (T:=33) (by kernel_rfl) (fun w=>by kernel_rfl) hi2 l.length hkp
  rw[Nat.mul_one]at hi9;clear j4 j7 i7 yX hsl;have j7:w2.cell? ⟨g0,7,none⟩=some (.slice Ai x.inp.length ci):=hb2.b.cell 7;have i7:w2.frozen? ⟨g0,7,none⟩=false:=hb2.b.frozen 7;obtain⟨b3,s3⟩:=hb2.aH 7 (.slice A9 (x.inp.length-l.length) c9);have ht3:=ht2.keep s3 (by omega)
  have hi3:=hi9.keep s3 (by omega)
  have hg3:=hg2.keep s3 (by omega)
  have rT3:=rT.keep s3 (by omega)
  obtain⟨A6,c6,e6,-,-,hrd6,-⟩:=rT3.form;injection e6 with e7 _ e8
  subst e7 e8;have j12:(w2.setCell ⟨g0,7,none⟩ (.slice A9 (x.inp.length-l.length) c9)).cell? ⟨g0,12,none⟩=some (.slice At x.told.length ct):=b3.b.cell 12;go_wp2_with (at_builtin;go_must (refine xw rfl _ _ 33 33 rfl 5 (.int .u8 0) 1 1 Tryz.underlying33 (.inl Tryz.underlying33) lT rfl (upT t w 1) (m+10+5*i+3) (.slice At x.told.length ct) x.told.length (x.told.map bv) rfl ht3 _ l.length (l.map bv) rfl (Src.fB hrd6 (uD l)) (by omega) ?_;intro v' w4 t4 hr4 hs4;obtain⟨A7,c7,rfl,-,-,-,-⟩:=hr4.form;have hb4:=b3.keep (hs4 (fun z=>z=m+10+5*i+3) rfl) (by omega);have j12':w4.cell? ⟨g0,12,none⟩=some (.slice At x.told.length ct):=hb4.b.cell 12;have i12':w4.frozen? ⟨g0,12,none⟩=false:=hb4.b.frozen 12))
  go_ret2
  obtain⟨b5,s5⟩:=hb4.aH 12 (.slice A7 (x.told.length+l.length) c7);have ha:=hs4 (fun z=>z=m+10+5*i+3) rfl
  refine⟨A5,c5,rfl,hc5,_,(rT3.keep ha (by omega)).keep s5 (by omega),?_⟩
  have sE:Stp (Mk (m+10+5*i) 5) w t _ t4:=(((s0.mono (S':=Mk (m+10+5*i) 5) fun _ h=>h.elim).trans s3 fun z (hz:z=m+10+5*i)=>(show m+10+5*i<= z/\ z<m+10+5*i+5 by omega)).trans (hs4 (Mk (m+10+5*i) 5) (by omega)) fun _ h=>h).trans s5 fun z (hz:z=m+10+5*i)=>(show m+10+5*i<= z/\ z<m+10+5*i+5 by omega)
  have hi:i<n.aG.length:=(List.getElem?_eq_some_iff.1 hx).1;have hsz:=h.s;refine⟨⟨A,vc,vq,h.up i x g0 (fun x=>AV x most) hx hg0 sE (fun _ h=>h) ?_⟩,sE.mono fun y hy=>by omega⟩
  show NcK _ t4 _ g0 (AV x most);rw[AV,HL.out,HD.out];exact⟨.slice A9 (x.inp.length-l.length) c9,vg,.slice A7 (x.told.length+l.length) c7,b5.to (by simp[ncC]),by simp only[List.length_drop,List.map_drop];exact(hi3.keep ha (by omega)).keep s5 (by omega),(hg3.keep ha (by omega)).keep s5 (by omega),by simp only[List.length_append,List.map_append];exact hr4.keep s5 (by omega)⟩
end Go.Proofs.YtdmondfpepbniaaGreatDoor
