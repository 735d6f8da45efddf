/- Part 15 of the proof: RfB. -/
import Derived.Test.YtdmondfpepbniaaGreatDoorQ11
import Derived.Test.YtdmondfpepbniaaGreatDoorQ13
namespace Go.Proofs.YtdmondfpepbniaaGreatDoor
open Go.RowKit
set_option maxRecDepth 100000
set_option maxHeartbeats 4000000
set_option linter.all false
def lW:Nat-> Int-> Bs-> R3 Int
 |0,st,r=>.ok st r
 |n+1,st,r=>(Gl (3- (n+1)) st r).bind fun a r=>lW n a r
theorem Qn (r:Bs):dX r=(aK PV r).bind fun _ r=>(lW 3 0 r).bind fun c r=>(aK (Dj c) r).bind fun _ r=>.ok c r:=by
 unfold dX lW lW lW lW;simp only[R3.PU,R3.bind_ok]
def Bh (j:Nat):Int:=([0,5,59,599]:List Int).getD j 0
theorem YG (i:Nat) (st:Int) (c:UInt8) (r:Bs) (h:(dgB c&& !(decide (i=0)&& (decide (c.toNat<50)||decide (53<c.toNat))))=false):Gl i st (c::r)= .bad:=by rw[Gl,h];rfl
theorem aaq (i:Nat) (st:Int) (c:UInt8) (r:Bs) (h:(dgB c&& !(decide (i=0)&& (decide (c.toNat<50)||decide (53<c.toNat))))=true):Gl i st (c::r)= .ok (10*st+((c.toNat:Int)-48)) r:=by rw[Gl,h];rfl
theorem RM.digit {w:World} {g:Nat} {P:Bs} {hd:Bool} {x:RPl} {k:Nat} {s:RSt} {c:UInt8} {r:Bs} {v:Int} (q:RM w g P hd x k { s with r:=c::r }) (hv:0<= v/\ v<= 599):
 RM ((w.setCell ⟨g,3,none⟩ (.int .i64 v)).setCell ⟨g,1,none⟩ (.int .i64 ((k:Int)+1))) g P hd x (k+1) { s with r:=r,st:=v } :=by
 have hl:=q.at_;simp at hl;refine RM.of ((q.rk.ay 3 (.int .i64 v)).ay 1 (.int .i64 ((k:Int)+1))) (by simp[jH]) q.cap (by simp only[];omega) ?_ q.nf (by have:=q.nd;simp only[]at this⊢;omega) (by have:=q.nq;simp only[]at this⊢;omega) hv
 rw[<- List.drop_drop,q.rest];rfl
theorem Qo {w:World} {g:Nat} {P:Bs} {hd:Bool} {s:RSt} (q:RdT w g P hd s) (hP:P.length<= 1000000) (h0:s.st=0):
 Calls Tryz.prog 100 #[.pointer (some ⟨g,0,none⟩)] w (kK w g P hd (dX s.r) (fun _=>.tuple #[]) (fun c r=> { s with r:=r,st:=c })):=by
 have hgl:=q.lt;have HX:=Lib.hid (Qn s.r);have hb1:=ig PV q hP (by decide)
 have H0:=Lib.hid h0;clear h0;go_enter Tryz.func100,Tryz.ntmps100
 go_wp2_with fail
 refine hb1.mono ?_;intro e w1 h1;rcases aN h1 with⟨hx,rfl,L⟩| ⟨hx,rfl,L⟩| ⟨_,r1,hx,rfl,q1,L1⟩
 ·exact⟨rfl,aA (by rw[HX.out,hx.out];rfl) L⟩
 ·exact⟨rfl,aC (by rw[HX.out,hx.out];rfl) L⟩
 ·have HY:=Lib.hid (show dX s.r=(lW 3 0 r1).bind fun c r=>(aK (Dj c) r).bind fun _ r=>.ok c r by rw[HX.out,hx.out];rfl)
  have q2:RdT w1 g P hd { s with r:=r1,st:=0 } :=by rw[<- H0.out];exact q1
  clear HX hx h1 hb1 q1;go_wp2_with fail
  go_loopw [6] (fun i wr=> ∃(j:Nat) (st:Int) (r:Bs),j<= 3/\ i= .int .i64 j/\ 0<= st/\ st<= Bh j/\ RdT wr g P hd { s with r:=r,st:=st } /\ Below g w wr/\ Hid (dX s.r=(lW (3-j) st r).bind fun c r=>(aK (Dj c) r).bind fun _ r=>.ok c r)) (fun i _=>3- (intOf i).toNat)
  case atStart=>exact⟨0,0,r1,by omega,rfl,Int.le_refl _,by decide,q2,L1,HY.out⟩
  case round=>
   obtain⟨j,st,r,hj,rfl,hs0,hs1,⟨x,k,q⟩,hb,H⟩:=hrel;have hbm:=fun m=>below_drewN' hb m
   by_cases hlt:j<3
   ·have hnx:=oU q hP
    rcases r with _| ⟨c,r⟩
    ·have HE:=Lib.hid (show dX s.r= .short by rw[H.out,show 3-j=(2-j)+1 by omega,lW];rfl)
     go_wp2_with fail
     refine hnx.mono ?_;rintro e w2 ⟨rfl,m,rfl⟩;exact⟨rfl,aA HE.out (hbm m)⟩
    ·have hdc:=fun w=>uP c w
     have HS:=Lib.hid (show dX s.r=((Gl j st (c::r)).bind fun a r=>lW (2-j) a r).bind fun c r=>(aK (Dj c) r).bind fun _ r=>.ok c r by
      rw[H.out,show 3-j=(2-j)+1 by omega,lW,show 3- (2-j+1)=j by omega])
     have hdb:=Lib.hid (YG j st c r);have hdo:=Lib.hid (aaq j st c r);have hdg:dgB c=true-> 48<= c.toNat/\ c.toNat<= 57:=fun h=>by simpa [dgB] using h
     have HDG:=Lib.hid hdg;clear hdg H;have hj3:j=0\/ j=1\/ j=2:=by omega
     rcases hj3 with rfl|rfl|rfl
     ·have ht:Bh 0=0:=rfl
      rw[ht]at hs1;clear ht;cases hd9:dgB c
      ·have HE:=Lib.hid (show dX s.r= .bad by rw[HS.out,hdb.out (by rw[hd9];rfl)];rfl)
       rw[hd9]at hdc;clear hd9;go_wp2_with fail
       refine hnx.mono ?_;rintro e w2 ⟨rfl,m,rfl⟩;go_wp2_with fail
       refine(hdc _).mono ?_;rintro e w3 ⟨rfl,rfl⟩;go_wp2_with fail
       refine(cO 8 _).mono ?_;rintro e w4 ⟨rfl,rfl⟩;exact⟨rfl,aC HE.out (hbm m)⟩
      ·have h48:=HDG.out hd9
       rcases Nat.lt_or_ge c.toNat 50 with h5|h5
       ·have HE:=Lib.hid (show dX s.r= .bad by rw[HS.out,hdb.out (by rw[hd9];simp[h5])];rfl)
        have h5i:(c.toNat:Int)<50:=by omega
        rw[hd9]at hdc;clear hd9;go_wp2_with fail
        refine hnx.mono ?_;rintro e w2 ⟨rfl,m,rfl⟩;go_wp2_with fail
        refine(hdc _).mono ?_;rintro e w3 ⟨rfl,rfl⟩;go_wp2_with fail
        refine(cO 8 _).mono ?_;rintro e w4 ⟨rfl,rfl⟩;exact⟨rfl,aC HE.out (hbm m)⟩
       ·rcases Nat.lt_or_ge 53 c.toNat with h6|h6
        ·have HE:=Lib.hid (show dX s.r= .bad by rw[HS.out,hdb.out (by rw[hd9];simp[h6])];rfl)
         have h5i: ¬(c.toNat:Int)<50:=by omega
         have h5d:decide ((c.toNat:Int)<50)=false:=decide_eq_false h5i;have h6i:53< (c.toNat:Int):=by omega
         rw[hd9]at hdc;clear hd9;go_wp2_with fail
         refine hnx.mono ?_;rintro e w2 ⟨rfl,m,rfl⟩;go_wp2_with fail
         refine(hdc _).mono ?_;rintro e w3 ⟨rfl,rfl⟩;go_wp2_with fail
         refine(cO 8 _).mono ?_;rintro e w4 ⟨rfl,rfl⟩;exact⟨rfl,aC HE.out (hbm m)⟩
        ·have hok:=hdo.out (by rw[hd9];simp;omega)
         have h5i: ¬(c.toNat:Int)<50:=by omega
         have h5d:decide ((c.toNat:Int)<50)=false:=decide_eq_false h5i;have h6i: ¬53< (c.toNat:Int):=by omega
         have h6d:decide (53< (c.toNat:Int))=false:=decide_eq_false h6i;rw[hd9]at hdc;clear hd9;have hv0:0<= 10*st+((c.toNat:Int)-48):=by omega
         have hv1:10*st+((c.toNat:Int)-48)<= Bh (0+1):=by rw[show Bh (0+1)=5 from rfl];omega
         have hv2:10*st+((c.toNat:Int)-48)<= 599:=by omega
         have hk9:(k:Int)<= 1000000:=by have:=q.at_;omega
         have hE:=Lib.hid (show dX s.r=(lW (2-0) (10*st+((c.toNat:Int)-48)) r).bind fun c r=>(aK (Dj c) r).bind fun _ r=>.ok c r by rw[HS.out,hok];rfl)
         clear hok HS;go_wp2_with fail
         refine hnx.mono ?_;rintro e w2 ⟨rfl,m,rfl⟩;have q3:=q.drewN m;have q4:=RM.digit (s:= { s with st:=st }) q3 (v:=10*st+((c.toNat:Int)-48)) ⟨hv0,hv2⟩
         have hb4:Below g w (((wr.drewN m).setCell ⟨g,3,none⟩ (.int .i64 (10*st+((c.toNat:Int)-48)))).setCell ⟨g,1,none⟩ (.int .i64 ((k:Int)+1))):=((hbm m).setCell (Nat.le_refl _) _).setCell (Nat.le_refl _) _;obtain⟨W,hW⟩: ∃W,W=wr.drewN m:=⟨_,rfl⟩;rw[<- hW]at q3 q4 hb4⊢;obtain⟨-,d1,-,d3,-,-,-,-,-,e1,-,e3,-⟩:=q3.c8;clear hW q q3 hbm hnx;go_wp2_with fail
         refine(hdc _).mono ?_;rintro e w3 ⟨rfl,rfl⟩;go_wp2
         go_roundw
         case rel=>exact⟨0+1,10*st+((c.toNat:Int)-48),r,by omega,by go_num,hv0,hv1,⟨x,k+1,q4⟩,hb4,by rw[show 3- (0+1)=2-0 by omega];exact hE⟩
         case measure=>simp[intOf]
     ·have ht:Bh 1=5:=rfl
      rw[ht]at hs1;clear ht;cases hd9:dgB c
      ·have HE:=Lib.hid (show dX s.r= .bad by rw[HS.out,hdb.out (by rw[hd9];rfl)];rfl)
       rw[hd9]at hdc;clear hd9;go_wp2_with fail
       refine hnx.mono ?_;rintro e w2 ⟨rfl,m,rfl⟩;go_wp2_with fail
       refine(hdc _).mono ?_;rintro e w3 ⟨rfl,rfl⟩;go_wp2_with fail
       refine(cO 8 _).mono ?_;rintro e w4 ⟨rfl,rfl⟩;exact⟨rfl,aC HE.out (hbm m)⟩
      ·have h48:=HDG.out hd9
       have hok:=hdo.out (by rw[hd9];rfl)
       rw[hd9]at hdc;clear hd9;have hv0:0<= 10*st+((c.toNat:Int)-48):=by omega
       have hv1:10*st+((c.toNat:Int)-48)<= Bh (1+1):=by rw[show Bh (1+1)=59 from rfl];omega
       have hv2:10*st+((c.toNat:Int)-48)<= 599:=by omega
       have hk9:(k:Int)<= 1000000:=by have:=q.at_;omega
       have hE:=Lib.hid (show dX s.r=(lW (2-1) (10*st+((c.toNat:Int)-48)) r).bind fun c r=>(aK (Dj c) r).bind fun _ r=>.ok c r by rw[HS.out,hok];rfl)
       clear hok HS;go_wp2_with fail
       refine hnx.mono ?_;rintro e w2 ⟨rfl,m,rfl⟩;have q3:=q.drewN m;have q4:=RM.digit (s:= { s with st:=st }) q3 (v:=10*st+((c.toNat:Int)-48)) ⟨hv0,hv2⟩
       have hb4:Below g w (((wr.drewN m).setCell ⟨g,3,none⟩ (.int .i64 (10*st+((c.toNat:Int)-48)))).setCell ⟨g,1,none⟩ (.int .i64 ((k:Int)+1))):=((hbm m).setCell (Nat.le_refl _) _).setCell (Nat.le_refl _) _;obtain⟨W,hW⟩: ∃W,W=wr.drewN m:=⟨_,rfl⟩;rw[<- hW]at q3 q4 hb4⊢;obtain⟨-,d1,-,d3,-,-,-,-,-,e1,-,e3,-⟩:=q3.c8;clear hW q q3 hbm hnx;go_wp2_with fail
       refine(hdc _).mono ?_;rintro e w3 ⟨rfl,rfl⟩;go_wp2
       go_roundw
       case rel=>exact⟨1+1,10*st+((c.toNat:Int)-48),r,by omega,by go_num,hv0,hv1,⟨x,k+1,q4⟩,hb4,by rw[show 3- (1+1)=2-1 by omega];exact hE⟩
       case measure=>simp[intOf]
     ·have ht:Bh 2=59:=rfl
      rw[ht]at hs1;clear ht;cases hd9:dgB c
      ·have HE:=Lib.hid (show dX s.r= .bad by rw[HS.out,hdb.out (by rw[hd9];rfl)];rfl)
       rw[hd9]at hdc;clear hd9;go_wp2_with fail
       refine hnx.mono ?_;rintro e w2 ⟨rfl,m,rfl⟩;go_wp2_with fail
       refine(hdc _).mono ?_;rintro e w3 ⟨rfl,rfl⟩;go_wp2_with fail
       refine(cO 8 _).mono ?_;rintro e w4 ⟨rfl,rfl⟩;exact⟨rfl,aC HE.out (hbm m)⟩
      ·have h48:=HDG.out hd9
       have hok:=hdo.out (by rw[hd9];rfl)
       rw[hd9]at hdc;clear hd9;have hv0:0<= 10*st+((c.toNat:Int)-48):=by omega
       have hv1:10*st+((c.toNat:Int)-48)<= Bh (2+1):=by rw[show Bh (2+1)=599 from rfl];omega
       have hv2:10*st+((c.toNat:Int)-48)<= 599:=by omega
       have hk9:(k:Int)<= 1000000:=by have:=q.at_;omega
       have hE:=Lib.hid (show dX s.r=(lW (2-2) (10*st+((c.toNat:Int)-48)) r).bind fun c r=>(aK (Dj c) r).bind fun _ r=>.ok c r by rw[HS.out,hok];rfl)
       clear hok HS;go_wp2_with fail
       refine hnx.mono ?_;rintro e w2 ⟨rfl,m,rfl⟩;have q3:=q.drewN m;have q4:=RM.digit (s:= { s with st:=st }) q3 (v:=10*st+((c.toNat:Int)-48)) ⟨hv0,hv2⟩
       have hb4:Below g w (((wr.drewN m).setCell ⟨g,3,none⟩ (.int .i64 (10*st+((c.toNat:Int)-48)))).setCell ⟨g,1,none⟩ (.int .i64 ((k:Int)+1))):=((hbm m).setCell (Nat.le_refl _) _).setCell (Nat.le_refl _) _;obtain⟨W,hW⟩: ∃W,W=wr.drewN m:=⟨_,rfl⟩;rw[<- hW]at q3 q4 hb4⊢;obtain⟨-,d1,-,d3,-,-,-,-,-,e1,-,e3,-⟩:=q3.c8;clear hW q q3 hbm hnx;go_wp2_with fail
       refine(hdc _).mono ?_;rintro e w3 ⟨rfl,rfl⟩;go_wp2
       go_roundw
       case rel=>exact⟨2+1,10*st+((c.toNat:Int)-48),r,by omega,by go_num,hv0,hv1,⟨x,k+1,q4⟩,hb4,by rw[show 3- (2+1)=2-2 by omega];exact hE⟩
       case measure=>simp[intOf]
   ·obtain rfl:j=3:=by omega
    have HE:=Lib.hid (show dX s.r=(aK (Dj st) r).bind fun _ r=>.ok st r from H.out)
    have hph:=fun w=>oC st w
    have hpl:=uz st;have hs9:Bh 3=599:=rfl;rw[hs9]at hs1;have hq1: ¬9223372036854775807<1+(bH st).length:=by omega
    have hq2: ¬9223372036854775807<1+(bH st).length+2:=by omega
    obtain⟨-,-,-,d3,-⟩:=q.c8;have hT:=fun(T:ByteArray) (h:T.size<= 1000)=>Gv T (⟨x,k,q⟩:RdT wr g P hd { s with r:=r,st:=st }) hP h
    clear hs9 H;go_wp2_with fail
    refine(hph _).mono ?_;rintro e w2 ⟨rfl,rfl⟩;go_wp2_with fail
    refine(hT _ (by rw[ByteArray.size_append,ByteArray.size_append];show 1+(bH st).toArray.size+2<= 1000;rw[List.size_toArray];omega)).mono ?_
    rintro e w3 ⟨h3,-⟩;rw[show(⟨#[32]⟩++(⟨(bH st).toArray⟩:ByteArray)++⟨#[13,10]⟩:ByteArray).data.toList=Dj st by rw[jL,jL];rfl]at h3
    rcases aN h3 with⟨hx,rfl,L⟩| ⟨hx,rfl,L⟩| ⟨_,r4,hx,rfl,q4,L⟩
    ·exact⟨rfl,aA (by rw[HE.out,hx.out];rfl) (hb.trans L)⟩
    ·exact⟨rfl,aC (by rw[HE.out,hx.out];rfl) (hb.trans L)⟩
    ·go_wp2
     go_end0
     exact bM (by rw[HE.out,hx.out];rfl) rfl (hb.trans L) q4
theorem Jo (most:Nat) (p:UInt8-> Bool) (r s t:Bs) (h:jl most p r= .ok s t):s.length+t.length=r.length/\ 1<= s.length:=by
 cases r with
 |nil=>cases h
 |cons c r=>
  rw[jl]at h;split at h
  ·cases h;simp;omega
  ·split at h
   ·cases h
   ·rename_i h0
    cases h
    have h1:(((c::r).take most).takeWhile p).length<=(c::r).length:=Nat.le_trans (List.takeWhile_sublist p).length_le (by rw[List.length_take];omega)
    refine⟨by rw[List.length_drop];omega,?_⟩
    cases hq:((c::r).take most).takeWhile p with
    |nil=>exact absurd hq h0
    |cons _ _=>simp
theorem Vj (r s t:Bs) (h:jl 12 hxB r= .ok s t):s.length<= 12/\ s.all hxB=true:=by
 cases r with
 |nil=>cases h
 |cons c r=>
  rw[jl]at h;split at h
  ·cases h;decide
  ·split at h
   ·cases h
   ·cases h
    refine⟨?_,List.all_takeWhile⟩;have:=(List.takeWhile_sublist hxB (l:=(c::r).take 12)).length_le;rw[List.length_take]at this;omega
theorem Vz (n:Nat) (r d t:Bs) (h:jm n r= .ok d t):t.length<= r.length:=by
 unfold jm at h;split at h
 ·cases h
 ·cases h;rw[List.length_drop];omega
theorem YH (n:Nat) (b:Bs) (p:List Int) (r:Bs):fU (n+1) b p r=(jl 12 hxB r).bind fun s t=>
 if s= [48]/\ p= []then .bad
 else(aK crlf t).bind fun _ t=>
  if s= [48]then(aK crlf t).bind fun _ t=>.ok (b,p) t
  else(jm (hexV s) t).bind fun d t=>(aK crlf t).bind fun _ t=>fU n (b++d) (p++ [((b++d).length:Int)]) t:=by rw[fU]
theorem aar: ∀b:UInt8,hxB b=true-> hexS.contains b=true/\ bD b.toNat<16/\ 0<= bD b.toNat:=by
 intro b h;have:=U0 (fun b=> !hxB b|| (hexS.contains b&&decide (bD b.toNat<16/\ 0<= bD b.toNat))) (by decide +kernel) b
 simp[h]at this;simpa using this
theorem Ep: ∀(l:Bs) (n:Int),0<= n-> l.all hxB=true-> ∃v,jM 16 l n=some v/\ 0<= v/\ v+1<=(n+1)*(16:Int) ^ l.length
 | [],n,h,_=>⟨n,rfl,h,by simp⟩
 |b::l,n,h,ha=>by
  simp only[List.all_cons,Bool.and_eq_true]at ha;obtain⟨-,h2,h1⟩:=aar b ha.1;obtain⟨v,hv,h0,hle⟩:=Ep l (n*16+bD b.toNat) (by omega) ha.2
  refine⟨v,by rw[jM,if_neg (by omega),hv],h0,Int.le_trans hle ?_⟩
  rw[List.length_cons,Int.pow_succ,<- Int.mul_assoc,Int.mul_right_comm];exact Int.mul_le_mul_of_nonneg_right (by omega) (Int.le_of_lt (Int.pow_pos (by decide)))
theorem YI (s:Bs) (h1:1<= s.length) (h2:s.length<= 12) (ha:s.all hxB=true):dA 16 12 s=some (hexV s:Int)/\ hexV s<= 281474976710656:=by
 obtain⟨v,hv,h0,hle⟩:=Ep s 0 (by omega) ha
 have hp:(16:Int) ^ s.length<= 16 ^ 12:=by exact_mod_cast Nat.pow_le_pow_right (n:=16) (by decide) h2
 have hn:dA 16 12 s=some v:=by rw[dA,if_neg (by omega),hv]
 have e:(16:Int) ^ 12=281474976710656:=by decide
 refine⟨?_,?_⟩
 ·rw[hexV,hn];simp;omega
 ·rw[hexV,hn];simp;omega
end Go.Proofs.YtdmondfpepbniaaGreatDoor
