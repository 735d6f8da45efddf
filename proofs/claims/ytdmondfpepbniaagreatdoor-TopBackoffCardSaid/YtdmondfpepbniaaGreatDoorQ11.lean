/- Part 11 of the proof: Kon2. -/
import Derived.Test.YtdmondfpepbniaaGreatDoorQ09
import Derived.Test.YtdmondfpepbniaaGreatDoorQ10
namespace Go.Proofs.YtdmondfpepbniaaGreatDoor
open Go.RowKit
set_option maxRecDepth 100000
set_option maxHeartbeats 4000000
set_option linter.all false
theorem rM (b:UInt8) (r:Bs):hexN (b::r)=if 0<= bD b.toNat then hexN r+1 else 0:=by
 unfold hexN;rw[List.takeWhile_cons];by_cases h:0<= bD b.toNat<;>simp[h]
theorem Jc: ∀(l:Bs) (k:Nat),k<hexN l-> ∃b,l.drop k=b::l.drop (k+1)/\ 0<= bD b.toNat
 | [],k,h=>by simp[hexN]at h
 |b::l,0,h=>by
  rw[rM]at h;split at h
  ·exact⟨b,rfl,by assumption⟩
  ·omega
 |b::l,k+1,h=>by
  rw[rM]at h;split at h
  ·obtain⟨c,h1,h2⟩:=Jc l k (by omega)
   exact⟨c,by simpa using h1,h2⟩
  ·omega
theorem Yr (b:UInt8) (r:Bs) (h:0<= bD b.toNat):yG (b::r)=false:=by
 have key: ∀x:Fin 256,0<= bD (UInt8.ofNat x.val).toNat-> isB (UInt8.ofNat x.val)=false/\ UInt8.ofNat x.val≠59:=by decide +kernel
 have:=key ⟨b.toNat,b.toNat_lt⟩ (by simpa using h)
 rw[show UInt8.ofNat b.toNat=b by simp]at this
 have ht:trimF (b::r)=b::r:=by rw[trimF,List.dropWhile_cons,this.1];rfl
 show xO (b::r) 0=false;refine Ae _ 0 (by rw[ht];simp) ?_
 rw[ht,pU,if_neg this.2]
theorem size_eq (l:Bs) (m:Nat) (hm:m=min (hexN l) 6):nC l=if yG (l.drop m)then dA 16 12 (l.take m)else none:=by
 rw[nC];by_cases h1:hexN l<1
 ·have h0:m=0:=by omega
  rw[if_pos (.inl h1),h0,List.take_zero];split<;>rfl
 ·by_cases h6:6<hexN l
  ·have h0:m=6:=by omega
   obtain⟨b,hb,hd⟩:=Jc l 6 h6;rw[if_pos (.inr h6),h0,hb,Yr _ _ hd];rfl
  ·have h0:m=hexN l:=by omega
   rw[if_neg (by omega),h0]
theorem Yt (b:UInt8):(dA 16 12 [b]).isSome=decide (0<= bD b.toNat):=by
 have h1:=vF b.toNat (by omega) (CX b)
 rw[dA,if_neg (by simp),jM]
 by_cases h:bD b.toNat<0
 ·rw[if_pos (.inl h)];simp;omega
 ·rw[if_neg (by omega)];simp[jM];omega
theorem D9 (b:UInt8) (w:World):
 Calls Tryz.prog 384 #[.int .u8 (b.toNat:Int)] w fun e w'=>e= .returned (.bool (decide (0<= bD b.toNat)))/\ Below w.heap.size w w':=by
 have hcv:=kL (P:=Tryz.prog) 33 5 9 Tryz.underlying33 Tryz.underlying5 Tryz.underlying9;have LW:=aj (Below.refl w.heap.size w) (.cells #[.int .u8 (b.toNat:Int)] 5);go_enter Tryz.func384,Tryz.ntmps384
 go_wp2_with fail
 refine(ru ⟨#[b]⟩ _ (by show 1<= _;decide)).mono ?_
 rw[show(⟨#[b]⟩:ByteArray).data.toList= [b]from rfl,CY,Yt]
 rintro e w1 ⟨rfl,L1⟩;go_wp2
 go_ret
 exact⟨rfl,stepW LW L1⟩
theorem jG (r:CS) (s:Bs) (h:nC s=none):nD r s= { r with status:=400 } :=by rw[nD,h]
theorem xW (r:CS) (s:Bs) (v:Int) (h:nC s=some v) (h2:2048- (r.body.length:Int)<v):nD r s= { r with status:=413 } :=by rw[nD,h];simp only;rw[if_pos h2]
theorem uK (r:CS) (s:Bs) (h:nC s=some 0) (h2:r.body.length<= 2048):nD r s= { r with place:=3 } :=by rw[nD,h];simp only;rw[if_neg (by omega)];rfl
theorem uM (r:CS) (s:Bs) (v:Int) (h:nC s=some v) (h2: ¬2048- (r.body.length:Int)<v) (h3:v≠0):nD r s= { r with place:=1,left:=v.toNat } :=by rw[nD,h];simp only;rw[if_neg h2,if_neg h3]
theorem UJ (g:Nat) (vl vb vt:Value) (r:CS) (s:ByteArray) (w:World) (h:KA w g vl vb vt r) (hs:s.size<= 1000000) (hb:r.body.length<= 2048):
 Calls Tryz.prog 372 #[.pointer (some ⟨g,0,none⟩),.string s] w (nN w g vl vb vt (nD r s.data.toList)):=by
 obtain⟨Ab,cb,rfl,hb1,hb2,hb3⟩:=h.ob.form;have hK:=KW.refl h;go_enter Tryz.func372,Tryz.ntmps372
 go_wp2
 go_loopw [4] (fun i wr=> ∃k:Nat,k<= s.size/\ k<= 6/\ i= .int .i64 k/\ Hid (hexN s.data.toList=k+hexN (s.data.toList.drop k))/\ Below w.heap.size w wr) (fun i _=>s.size- (intOf i).toNat)
 case atStart=>exact⟨0,Nat.zero_le _,by omega,rfl,Lib.hid (by simp),Below.refl _ _⟩
 case round=>
  obtain⟨k,hk,hk6,rfl,H,L⟩:=hrel;by_cases hgo: ∃b,s.data.toList.drop k=b::s.data.toList.drop (k+1)/\ k<s.size/\ k<6/\ PlainAid.bt s k=(b.toNat:Int)/\ 0<= bD b.toNat
  ·obtain⟨b,hb,hlt,P6,hbt,hd⟩:=hgo
   have HR:=Lib.hid (show hexN s.data.toList=(k+1)+hexN (s.data.toList.drop (k+1)) by rw[H.out,hb,rM,if_pos hd];omega)
   have hbs:=PlainAid.get_bt s;clear hb H;go_wp2_with fail
   refine(D9 b _).mono ?_;rw[show decide (0<= bD b.toNat)=true by simpa using hd]
   rintro e w1 ⟨rfl,L1⟩;go_wp2_with fail
   go_roundw
   case rel=>exact⟨k+1,by omega,by omega,by go_num,HR,stepW L L1⟩
   case measure=>simp[intOf];omega
  ·have hm:k=min (hexN s.data.toList) 6:=by
    rcases Nat.lt_or_ge k s.size with hlt|hge
    ·rcases Nat.lt_or_ge k 6 with P6|hge6
     ·obtain⟨b,hb,hbt⟩:=dP s k hlt
      have: ¬0<= bD b.toNat:=fun hd=>hgo ⟨b,hb,hlt,P6,hbt,hd⟩
      rw[H.out,hb,rM,if_neg this];omega
     ·have:=H.out;omega
    ·rw[H.out,drop_end s k hge];show k=min (k+0) 6;omega
   have hst:(k<s.size/\ k<6/\ ∃b:UInt8,PlainAid.bt s k=(b.toNat:Int)/\ ¬0<= bD b.toNat)\/ (k=s.size\/ k=6):=by
    rcases Nat.lt_or_ge k s.size with hlt|hge
    ·rcases Nat.lt_or_ge k 6 with P6|hge6
     ·obtain⟨b,hb,hbt⟩:=dP s k hlt
      exact .inl ⟨hlt,P6,b,hbt,fun hd=>hgo ⟨b,hb,hlt,P6,hbt,hd⟩⟩
     ·exact .inr (.inr (by omega))
    ·exact .inr (.inl (by omega))
   have HS:=Lib.hid (size_eq s.data.toList k hm);obtain⟨X,hX⟩: ∃X,X=s.extract 0 k:=⟨_,rfl⟩;obtain⟨Y,hY⟩: ∃Y,Y=s.extract k s.size:=⟨_,rfl⟩;have HX:=Lib.hid (show X.data.toList=s.data.toList.take k by rw[hX,zG])
   have HY:=Lib.hid (show Y.data.toList=s.data.toList.drop k by rw[hY,iK])
   have hXs:X.size<= 6:=by rw[hX,ext_size _ _ _ (Nat.zero_le _) hk];omega
   have hYs:Y.size<= 1000000:=by rw[hY,ext_size _ _ _ hk (Nat.le_refl _)];omega
   have hXe:=hX.symm;have hYe:=hY.symm;clear hX hY hgo H hm;have hend: ∃w1,w1=wr/\ Below w.heap.size w w1:=⟨wr,rfl,L⟩;rcases hst with⟨hlt,P6,b,hbt,hd⟩|hst
   ·have hbs:=PlainAid.get_bt s
    clear hend;go_wp2_with fail
    refine(D9 b _).mono ?_;rw[show decide (0<= bD b.toNat)=false by simpa using hd]
    rintro e w1 ⟨rfl,L1⟩;have L2:=stepW L L1;clear hbt hd hbs L1;go_wp2_with fail
    refine(ru X _ (by unfold maxLen;omega)).mono ?_
    rw[HX.out];generalize ho:dA 16 12 (s.data.toList.take k)=o;rintro e w2 ⟨rfl,L3⟩;unfold CY;go_wp2_with fail
    refine(uI Y w2 hYs).mono ?_;rw[HY.out];rintro e w3 ⟨⟨v,rfl⟩,L4⟩;have L5:=stepW (stepW L2 L3) L4;have hK5:=hK.ah L5;obtain⟨j0,j1,j2,j3,j4,j5,j6,j7,i0,i1,i2,i3,i4,i5,i6,i7⟩:=Blk.c8 hK5.o.blk;have hS2:=HS.out;rw[ho]at hS2;clear L3 L4 HX HY HS hXe hYe;cases o with
    |none=>
     have HR:=Lib.hid (jG r s.data.toList (by rw[hS2];split<;>rfl))
     clear hS2 ho;go_wp2
     go_end0
     exact dG hK5.ay rfl (by rw[HR.out];rfl) (by rw[HR.out]) (by rw[HR.out]) (by rw[HR.out])
    |some n=>
     cases hp:yG (s.data.toList.drop k)
     ·have HR:=Lib.hid (jG r s.data.toList (by rw[hS2,hp];rfl))
      clear hS2 ho hp;go_wp2
      go_end0
      exact dG hK5.ay rfl (by rw[HR.out];rfl) (by rw[HR.out]) (by rw[HR.out]) (by rw[HR.out])
     ·have h3:nC s.data.toList=some n:=by rw[hS2,hp];rfl
      have hn:=kM _ _ h3;clear hS2 ho hp;by_cases hbig:2048- (r.body.length:Int)<n
      ·have HR:=Lib.hid (xW r s.data.toList n h3 hbig)
       clear h3;go_wp2
       go_end0
       exact dG hK5.ay rfl (by rw[HR.out];rfl) (by rw[HR.out]) (by rw[HR.out]) (by rw[HR.out])
      ·by_cases h0:n=0
       ·subst h0
        have HR:=Lib.hid (uK r s.data.toList h3 hb);clear h3;go_wp2
        go_end0
        exact dG hK5.ay rfl (by rw[HR.out];rfl) (by rw[HR.out]) (by rw[HR.out]) (by rw[HR.out])
       ·have HR:=Lib.hid (uM r s.data.toList n h3 hbig h0)
        have hbig2:n<= 2048- (r.body.length:Int):=by omega
        have hne:(n==0)=false:=by simpa using h0
        clear h3 hbig h0;obtain⟨u,rfl⟩: ∃u:Nat,n=u:=⟨n.toNat,by omega⟩
        go_wp2
        go_end0
        exact dG (hK5.ay.ay) rfl (by rw[HR.out];rfl) (by rw[HR.out]) (by rw[HR.out]) (by rw[HR.out])
   ·obtain⟨w1,rfl,L2⟩:=hend
    rcases hst with hst|hst
    ·have hge:s.size<= k:=by omega
     clear hst;go_wp2_with fail
     refine(ru X _ (by unfold maxLen;omega)).mono ?_
     rw[HX.out];generalize ho:dA 16 12 (s.data.toList.take k)=o;rintro e w2 ⟨rfl,L3⟩;unfold CY;go_wp2_with fail
     refine(uI Y w2 hYs).mono ?_;rw[HY.out];rintro e w3 ⟨⟨v,rfl⟩,L4⟩;have L5:=stepW (stepW L2 L3) L4;have hK5:=hK.ah L5;obtain⟨j0,j1,j2,j3,j4,j5,j6,j7,i0,i1,i2,i3,i4,i5,i6,i7⟩:=Blk.c8 hK5.o.blk;have hS2:=HS.out;rw[ho]at hS2;clear L3 L4 HX HY HS hXe hYe;cases o with
     |none=>
      have HR:=Lib.hid (jG r s.data.toList (by rw[hS2];split<;>rfl))
      clear hS2 ho;go_wp2
      go_end0
      exact dG hK5.ay rfl (by rw[HR.out];rfl) (by rw[HR.out]) (by rw[HR.out]) (by rw[HR.out])
     |some n=>
      cases hp:yG (s.data.toList.drop k)
      ·have HR:=Lib.hid (jG r s.data.toList (by rw[hS2,hp];rfl))
       clear hS2 ho hp;go_wp2
       go_end0
       exact dG hK5.ay rfl (by rw[HR.out];rfl) (by rw[HR.out]) (by rw[HR.out]) (by rw[HR.out])
      ·have h3:nC s.data.toList=some n:=by rw[hS2,hp];rfl
       have hn:=kM _ _ h3;clear hS2 ho hp;by_cases hbig:2048- (r.body.length:Int)<n
       ·have HR:=Lib.hid (xW r s.data.toList n h3 hbig)
        clear h3;go_wp2
        go_end0
        exact dG hK5.ay rfl (by rw[HR.out];rfl) (by rw[HR.out]) (by rw[HR.out]) (by rw[HR.out])
       ·by_cases h0:n=0
        ·subst h0
         have HR:=Lib.hid (uK r s.data.toList h3 hb);clear h3;go_wp2
         go_end0
         exact dG hK5.ay rfl (by rw[HR.out];rfl) (by rw[HR.out]) (by rw[HR.out]) (by rw[HR.out])
        ·have HR:=Lib.hid (uM r s.data.toList n h3 hbig h0)
         have hbig2:n<= 2048- (r.body.length:Int):=by omega
         have hne:(n==0)=false:=by simpa using h0
         clear h3 hbig h0;obtain⟨u,rfl⟩: ∃u:Nat,n=u:=⟨n.toNat,by omega⟩
         go_wp2
         go_end0
         exact dG (hK5.ay.ay) rfl (by rw[HR.out];rfl) (by rw[HR.out]) (by rw[HR.out]) (by rw[HR.out])
    ·have hge:6<= k:=by omega
     clear hst;go_wp2_with fail
     refine(ru X _ (by unfold maxLen;omega)).mono ?_
     rw[HX.out];generalize ho:dA 16 12 (s.data.toList.take k)=o;rintro e w2 ⟨rfl,L3⟩;unfold CY;go_wp2_with fail
     refine(uI Y w2 hYs).mono ?_;rw[HY.out];rintro e w3 ⟨⟨v,rfl⟩,L4⟩;have L5:=stepW (stepW L2 L3) L4;have hK5:=hK.ah L5;obtain⟨j0,j1,j2,j3,j4,j5,j6,j7,i0,i1,i2,i3,i4,i5,i6,i7⟩:=Blk.c8 hK5.o.blk;have hS2:=HS.out;rw[ho]at hS2;clear L3 L4 HX HY HS hXe hYe;cases o with
     |none=>
      have HR:=Lib.hid (jG r s.data.toList (by rw[hS2];split<;>rfl))
      clear hS2 ho;go_wp2
      go_end0
      exact dG hK5.ay rfl (by rw[HR.out];rfl) (by rw[HR.out]) (by rw[HR.out]) (by rw[HR.out])
     |some n=>
      cases hp:yG (s.data.toList.drop k)
      ·have HR:=Lib.hid (jG r s.data.toList (by rw[hS2,hp];rfl))
       clear hS2 ho hp;go_wp2
       go_end0
       exact dG hK5.ay rfl (by rw[HR.out];rfl) (by rw[HR.out]) (by rw[HR.out]) (by rw[HR.out])
      ·have h3:nC s.data.toList=some n:=by rw[hS2,hp];rfl
       have hn:=kM _ _ h3;clear hS2 ho hp;by_cases hbig:2048- (r.body.length:Int)<n
       ·have HR:=Lib.hid (xW r s.data.toList n h3 hbig)
        clear h3;go_wp2
        go_end0
        exact dG hK5.ay rfl (by rw[HR.out];rfl) (by rw[HR.out]) (by rw[HR.out]) (by rw[HR.out])
       ·by_cases h0:n=0
        ·subst h0
         have HR:=Lib.hid (uK r s.data.toList h3 hb);clear h3;go_wp2
         go_end0
         exact dG hK5.ay rfl (by rw[HR.out];rfl) (by rw[HR.out]) (by rw[HR.out]) (by rw[HR.out])
        ·have HR:=Lib.hid (uM r s.data.toList n h3 hbig h0)
         have hbig2:n<= 2048- (r.body.length:Int):=by omega
         have hne:(n==0)=false:=by simpa using h0
         clear h3 hbig h0;obtain⟨u,rfl⟩: ∃u:Nat,n=u:=⟨n.toNat,by omega⟩
         go_wp2
         go_end0
         exact dG (hK5.ay.ay) rfl (by rw[HR.out];rfl) (by rw[HR.out]) (by rw[HR.out]) (by rw[HR.out])
theorem Dp (r:CS) (s:Bs) (h:eX s=none):gI r s= { r with ends:=r.ends+s.length+2,status:=400 } :=by rw[gI,h]
theorem uo (r:CS) (s:Bs) (f:Fd) (h:eX s=some f) (h2:512<r.ends+s.length+2\/ r.trs.length=8):gI r s= { r with ends:=r.ends+s.length+2,status:=431 } :=by rw[gI,h];simp only;rw[if_pos h2]
theorem Dq (r:CS) (s:Bs) (f:Fd) (h:eX s=some f) (h2: ¬(512<r.ends+s.length+2\/ r.trs.length=8)):gI r s= { r with ends:=r.ends+s.length+2,trs:=r.trs++ [f] } :=by rw[gI,h];simp only;rw[if_neg h2]
theorem Jd (g:Nat) (vl vb vt:Value) (r:CS) (s:ByteArray) (w:World) (h:KA w g vl vb vt r) (hs:s.size<= 1000000) (he:r.ends<= 1000000) (ht:r.trs.length<= 8) (hm:ML w):
 Calls Tryz.prog 373 #[.pointer (some ⟨g,0,none⟩),.string s] w (nN w g vl vb vt (gI r s.data.toList)):=by
 obtain⟨At,ct,rfl,hb1,hb2,hb3⟩:=h.ot.form;have hK:=KW.refl h;have hl:=au s;go_enter Tryz.func373,Tryz.ntmps373
 go_wp2_with fail
 refine(Aj s w hm).mono ?_;rintro e w1 ⟨⟨N,M,er,rfl,hp⟩,L1⟩;have hK1:=hK.ah L1;obtain⟨E,hE⟩: ∃E:Nat,E=r.ends+s.data.toList.length+2:=⟨_,rfl⟩;have ha:(r.ends:Int)+((s.size:Int)+2)=(r.ends:Int)+(s.size:Int)+2:=by omega
 have hEi:(r.ends:Int)+(s.size:Int)+2=(E:Int):=by omega
 have HEi:=Lib.hid hEi;clear hEi;have hEb:E<= 3000000:=by omega
 obtain⟨V,hV⟩: ∃V,V=w1.alloc (.cells #[.string N,.string M] 86):=⟨_,rfl⟩;have hK2:KW w (foot g vl vb (.slice At r.trs.length ct)) V 399 g (Gq r vl vb (.slice At r.trs.length ct)) vl vb (.slice At r.trs.length ct) r.line r.body r.trs:=by rw[hV];exact hK1.alloc
 have B1:Blk V w1.heap.size 86 #[.string N,.string M]:=by rw[hV];exact Blk.new' _ _ rfl _ _
 have hgl:g<w1.heap.size:=hK1.o.blk.lt;go_upto_region 1 with(fail)
 rw[<- hV];clear hV;obtain⟨j0,j1,j2,j3,j4,j5,j6,j7,i0,i1,i2,i3,i4,i5,i6,i7⟩:=Blk.c8 hK2.o.blk;obtain⟨k0,k1,n0,n1⟩:=B1.c2;clear hK1 L1 hK;rcases hp with⟨hp,rfl⟩| ⟨hp,he0⟩
 ·by_cases h512:512<E
  ·have HR:=Lib.hid (uo r _ _ hp (.inl (by omega)))
   have g512:(512:Int)< (r.ends:Int)+(s.size:Int)+2:=by omega
   clear hp;go_wp2
   go_end0
   exact dG (hK2.ay.ay) rfl (by rw[HR.out,<- hE,HEi.out];rfl) (by rw[HR.out]) (by rw[HR.out]) (by rw[HR.out])
  ·have h512':(r.ends:Int)+(s.size:Int)+2<= 512:=by omega
   by_cases h8:r.trs.length=8
   ·have HR:=Lib.hid (uo r _ _ hp (.inr h8))
    clear hp;go_wp2
    go_end0
    exact dG (hK2.ay.ay) rfl (by rw[HR.out,<- hE,HEi.out];rfl) (by rw[HR.out]) (by rw[HR.out]) (by rw[HR.out])
   ·have HR:=Lib.hid (Dq r _ _ hp (by omega))
    have h8':r.trs.length<8:=by omega
    have e8:((r.trs.length:Int)==8)=false:=by rw[Bool.eq_false_iff];intro h9;rw[beq_iff_eq]at h9;omega
    clear hp h8 h512;go_wp2
    have hK3:=hK2.ay (i:=5) (u:=.int .i64 ((r.ends:Int)+(s.size:Int)+2));obtain⟨V2,hV2⟩: ∃V2,V2=V.setCell ⟨g,5,none⟩ (.int .i64 ((r.ends:Int)+(s.size:Int)+2)):=⟨_,rfl⟩;have B2:Blk V2 w1.heap.size 86 #[.string N,.string M]:=by rw[hV2];exact B1.far (p:=⟨g,5,none⟩) (by show w1.heap.size≠g;omega) _
    rw[<- hV2]at hK3⊢;clear hV2 j0 j1 j2 j3 j4 j5 j6 j7 i0 i1 i2 i3 i4 i5 i6 i7 k0 k1 n0 n1 B1 hK2;obtain⟨j0,j1,j2,j3,j4,j5,j6,j7,i0,i1,i2,i3,i4,i5,i6,i7⟩:=Blk.c8 hK3.o.blk;obtain⟨k0,k1,n0,n1⟩:=B2.c2;have hK4:=hK3.alloc (o:=.cells #[.string N,.string M] 86);obtain⟨y0,y1,y2,y3,y4,y5,y6,y7,z0,z1,z2,z3,z4,z5,z6,z7⟩:=Blk.c8 hK4.o.blk
    go_region_law (refine rF rfl (.tmp 25) (.tmp 27) rfl 0 (.slice At r.trs.length ct) r.trs rfl hK3.o.ot (aj ((Below.refl _ _).drew) _) _ 1 1 (V2.heap.size+1) rfl [(N.data.toList,M.data.toList)] rfl (by rw[TW];exact Rd.new V2.drew _ rfl [.string N,.string M] _ 1 2 rfl) (by simp;omega) (Nat.zero_le _) ?_;intro v' w3 ho3 hx3;obtain⟨A3,c3,hv3,hc31,hc32,TT⟩:=ho3.form;rw[show(r.trs++ [(N.data.toList,M.data.toList)]).length=r.trs.length+1 by simp]at hv3;subst hv3;have hK5:=hK3.ZV hx3 ho3;obtain⟨q0,q1,q2,q3,q4,q5,q6,q7,p0,p1,p2,p3,p4,p5,p6,p7⟩:=Blk.c8 hK5.o.blk)
    all_goals
     go_wp2
     go_end0
     exact dG hK5.ay rfl (by rw[HR.out,<- hE,HEi.out];rfl) (by rw[HR.out]) (by rw[HR.out]) (by rw[HR.out])
 ·have HR:=Lib.hid (Dp r _ hp)
  have he1:(er != 0)=true:=by simp;omega
  clear hp he0;go_wp2
  go_end0
  exact dG (hK2.ay.ay) rfl (by rw[HR.out,<- hE,HEi.out];rfl) (by rw[HR.out]) (by rw[HR.out]) (by rw[HR.out])
theorem vZ {w W:World} {g:Nat} {cs:Array Value} {vl vb vt vl' vb' vt':Value} {L B:Bs} {F:List Fd} {r:CS} {e:Ending} {w':World} (h:KW w (foot g vl vb vt) W 399 g cs vl' vb' vt' L B F)
 (hp:nN W g vl' vb' vt' r e w'):nN w g vl vb vt r e w':=by
 obtain⟨he,a,b,c,h1,h2⟩:=hp;exact⟨he,a,b,c,h1,h.m.trans h2⟩
theorem UK {w W:World} {S:Nat-> Prop} {g:Nat} {cs:Array Value} {vl vb vt:Value} {L B:Bs} {F:List Fd} {r:CS} (h:KW w S W 399 g cs vl vb vt L B F)
 (hc:cs=Gq r vl vb vt) (hL:L=r.line) (hB:B=r.body) (hF:F=r.trs):KA W g vl vb vt r:=by
 subst hc hL hB hF;exact h.o
theorem Ea (r:CS) (c:UInt8) (hc:c≠10):kH r c=tJ { r with line:=r.line++ [c] } (if c=13 then r.line.length else r.line.length+1):=by
 rw[kH,if_neg hc];rfl
theorem Ba (g:Nat) (vl vb vt:Value) (r:CS) (c:UInt8) (w:World) (h:KA w g vl vb vt r) (hi:lu r) (hc:c≠10):
 Calls Tryz.prog 347 #[.pointer (some ⟨g,0,none⟩),.int .u8 (c.toNat:Int)] w (nN w g vl vb vt (kH r c)):=by
 obtain⟨j0,j1,j2,j3,j4,j5,j6,j7,i0,i1,i2,i3,i4,i5,i6,i7⟩:=Blk.c8 h.blk;obtain⟨Al,cl,rfl,hb1,hb2,hb3⟩:=h.ol.form;have hK:=KW.refl h;have hlen:=hi.len;have he:=hi.kJ;have hc1:=Jb hc (n:=10) rfl;by_cases h13:c=13
 ·have hc2:((c.toNat:Int)==13)=true:=by rw[h13];rfl
  have HR:=Lib.hid (show kH r c=tJ { r with line:=r.line++ [c] } r.line.length by rw[Ea _ _ hc,if_pos h13])
  clear h13;go_enter Tryz.func347,Tryz.ntmps347
  go_wp2_with (at_builtin;refine iw rfl _ _ rfl 0 (.slice Al r.line.length cl) _ rfl h.ol _ rfl _ rfl c rfl (by omega) (Nat.zero_le _) ?_;intro v' w2 ho2 hx;have h2:=hK.FY hx ho2;obtain⟨A3,c3,hv3,hc31,hc32,TT⟩:=ho2.form;rw[show(r.line++ [c]).length=r.line.length+1 by simp]at hv3;subst hv3;obtain⟨k0,k1,k2,k3,k4,k5,k6,k7,n0,n1,n2,n3,n4,n5,n6,n7⟩:=Blk.c8 h2.o.blk;clear ho2 hx)
  have h3:=h2.ay (i:=1) (u:=.slice A3 (r.line.length+1) c3);refine(AZ g _ _ _ { r with line:=r.line++ [c] } r.line.length _ (UK h3 rfl rfl rfl rfl) (by omega) he).mono ?_
  intro e w' hp;have hp2:=vZ h3 hp;rw[<- HR.out]at hp2;clear h2 h3 hp;obtain⟨rfl,hq⟩:=hp2;go_wp2
  go_end0
  exact⟨rfl,hq⟩
 ·have hc2:=Jb h13 (n:=13) rfl
  have HR:=Lib.hid (show kH r c=tJ { r with line:=r.line++ [c] } (r.line.length+1) by rw[Ea _ _ hc,if_neg h13])
  go_enter Tryz.func347,Tryz.ntmps347
  go_wp2_with (at_builtin;refine iw rfl _ _ rfl 0 (.slice Al r.line.length cl) _ rfl h.ol _ rfl _ rfl c rfl (by omega) (Nat.zero_le _) ?_;intro v' w2 ho2 hx;have h2:=hK.FY hx ho2;obtain⟨A3,c3,hv3,hc31,hc32,TT⟩:=ho2.form;rw[show(r.line++ [c]).length=r.line.length+1 by simp]at hv3;subst hv3;obtain⟨k0,k1,k2,k3,k4,k5,k6,k7,n0,n1,n2,n3,n4,n5,n6,n7⟩:=Blk.c8 h2.o.blk;clear ho2 hx)
  have h3:=h2.ay (i:=1) (u:=.slice A3 (r.line.length+1) c3);refine(AZ g _ _ _ { r with line:=r.line++ [c] } (r.line.length+1) _ (UK h3 rfl rfl rfl rfl) (by omega) he).mono ?_
  intro e w' hp;have hp2:=vZ h3 hp;rw[<- HR.out]at hp2;clear h2 h3 hp;obtain⟨rfl,hq⟩:=hp2;go_wp2
  go_end0
  exact⟨rfl,hq⟩
theorem P7 (r:CS) (h:r.line.getLast? ≠some 13):kH r 10= { r with status:=400 } :=by rw[kH,if_pos rfl,if_neg h]
theorem P8 (r:CS) (P:Bs) (h:r.line=P++ [13]):kH r 10=if r.place=0 then nD { r with line:= [] } P else if P= []then { r with line:= [],whole:=true } else gI { r with line:= [] } P:=by
 rw[kH,if_pos rfl,if_pos (by rw[h];simp),h]
 simp only[List.dropLast_concat]
theorem oQ (l:Bs):l= []\/ ∃P x,l=P++ [x]:=by
 rcases List.eq_nil_or_concat l with h| ⟨P,x,h⟩
 ·exact .inl h
 ·exact .inr ⟨P,x,by simpa using h⟩
theorem Bc (g:Nat) (vl vb vt:Value) (r:CS) (w:World) (h:KA w g vl vb vt r) (hi:lu r) (hb:r.line.getLast? ≠some 13):
 Calls Tryz.prog 347 #[.pointer (some ⟨g,0,none⟩),.int .u8 10] w (nN w g vl vb vt (kH r 10)):=by
 obtain⟨j0,j1,j2,j3,j4,j5,j6,j7,i0,i1,i2,i3,i4,i5,i6,i7⟩:=Blk.c8 h.blk;have hK:=KW.refl h;have hlen:=hi.len;have HR:=Lib.hid (P7 r hb);rcases oQ r.line with hl| ⟨P,x,hl⟩
 ·obtain⟨Al,cl,rfl,hb1,hb2,hb3⟩:=h.ol.form
  rw[hl]at j1;go_enter Tryz.func347,Tryz.ntmps347
  go_wp2
  go_end0
  exact dG hK.ay rfl (by rw[HR.out];rfl) (by rw[HR.out]) (by rw[HR.out]) (by rw[HR.out])
 ·have hx:x≠13:=by rintro rfl;exact hb (by rw[hl];simp)
  have hn:r.line.length=P.length+1:=by rw[hl];simp
  obtain⟨b,cap,rfl,hb1,hb2,hb3⟩:=Own.form h.ol (by omega)
  obtain⟨hc1,hc2⟩:=Own.cellAt h.ol P.length (by omega)
  have hc3:w.cell? ⟨b,P.length,none⟩=some (.int .u8 (x.toNat:Int)):=by rw[hc1,hl];simp
  rw[hn]at j1 hb3;have hx2:=Jb hx (n:=13) rfl;have hx3:((x.toNat:Int) != 13)=true:=by rw[bne,hx2];rfl
  have hp0:((P.length:Int)+1==0)=false:=by rw[Bool.eq_false_iff];intro h0;rw[beq_iff_eq]at h0;omega
  clear hc1 hb;go_enter Tryz.func347,Tryz.ntmps347
  go_wp2
  go_end0
  exact dG hK.ay rfl (by rw[HR.out];rfl) (by rw[HR.out]) (by rw[HR.out]) (by rw[HR.out])
theorem Bd (g:Nat) (vl vb vt:Value) (r:CS) (P:Bs) (w:World) (h:KA w g vl vb vt r) (hi:lu r) (hl:r.line=P++ [13]) (hp:r.place=0\/ r.place=3) (hm:ML w) (hh:Hi (foot g vl (vb:Value) vt)):
 Calls Tryz.prog 347 #[.pointer (some ⟨g,0,none⟩),.int .u8 10] w (nN w g vl vb vt (kH r 10)):=by
 obtain⟨j0,j1,j2,j3,j4,j5,j6,j7,i0,i1,i2,i3,i4,i5,i6,i7⟩:=Blk.c8 h.blk;have hK:=KW.refl h;have hlen:=hi.len;have hbd:=hi.body;have hee:=hi.kJ;have htr:=hi.trs;have hn:r.line.length=P.length+1:=by rw[hl];simp
 have HR:=Lib.hid (P8 r P hl);obtain⟨b,cap,hv,hKc⟩:=hK.TV (by omega)
 subst hv;obtain⟨hc1,hc2⟩:=Own.cellAt h.ol P.length (by omega)
 have hc3:w.cell? ⟨b,P.length,none⟩=some (.int .u8 13):=by rw[hc1,hl];simp
 obtain⟨hb3,hb4,hb5⟩:=Own.rdS h.ol;have hrd:=Rd.zI hb5 (k:=P.length) (by omega)
 rw[Nat.mul_one,show(r.line.map bv).take P.length=P.map bv by rw[hl];simp]at hrd
 obtain⟨X,hX⟩: ∃X:ByteArray,X=⟨P.toArray⟩:=⟨_,rfl⟩;have HX:=Lib.hid (show X.data.toList=P by rw[hX])
 have hXs:X.size=P.length:=by rw[hX];exact(au _).symm
 have hcv:=iD (P:=Tryz.prog) hrd cap 33 5 9 Tryz.underlying33 Tryz.underlying5 Tryz.underlying9;rw[show sv P= .string X by rw[hX]]at hcv
 have hf:=h.nl;have hgb: ¬b=g:=by intro e;apply hf;rw[<- e];rfl
 rw[hn]at j1 hb3;have hp0:((P.length:Int)+1==0)=false:=by rw[Bool.eq_false_iff];intro h0;rw[beq_iff_eq]at h0;omega
 have h3:=hKc.ay (i:=1) (u:=.slice (some ⟨b,0,none⟩) 0 cap);have hkA:KA (w.setCell ⟨g,1,none⟩ (.slice (some ⟨b,0,none⟩) 0 cap)) g (.slice (some ⟨b,0,none⟩) 0 cap) vb vt { r with line:= [] } :=UK h3 rfl rfl rfl rfl
 clear hX hrd hb5 hb4 hc1 hf hKc;rcases hp with hp|hp
 ·rw[hp]at j0
  have HR2:=Lib.hid (HR.out.trans (if_pos hp));go_enter Tryz.func347,Tryz.ntmps347
  go_wp2_with fail
  refine(UJ g _ _ _ { r with line:= [] } X _ hkA (by omega) (by simp only;rw[if_neg (by omega)]at hbd;omega)).mono ?_
  rw[HX.out,<- HR2.out];intro e w' hq;obtain⟨rfl,hq2⟩:=vZ h3 hq;go_wp2
  go_end0
  exact⟨rfl,hq2⟩
 ·rw[hp]at j0
  have HR2:=Lib.hid (HR.out.trans (if_neg (by omega)))
  rcases Nat.eq_zero_or_pos P.length with h0|h0
  ·have HR3:=Lib.hid (HR2.out.trans (if_pos (List.eq_nil_of_length_eq_zero h0)))
   obtain rfl:X=⟨#[]⟩:=iE (by omega)
   have hK4:=h3.ay (i:=6) (u:=.bool true);clear h0 hXs;go_enter Tryz.func347,Tryz.ntmps347
   go_wp2
   go_end0
   exact dG hK4 rfl (by rw[HR3.out];rfl) (by rw[HR3.out]) (by rw[HR3.out]) (by rw[HR3.out])
  ·have HR3:=Lib.hid (HR2.out.trans (if_neg (by intro h1;rw[h1]at h0;simp at h0)))
   have hXe:=bI (s:=X) (by omega)
   have hm2:ML (w.setCell ⟨g,1,none⟩ (.slice (some ⟨b,0,none⟩) 0 cap)):=hm.ay (p:=⟨g,1,none⟩) (hh g (.inl rfl)) _;go_enter Tryz.func347,Tryz.ntmps347
   go_wp2_with fail
   refine(Jd g _ _ _ { r with line:= [] } X _ hkA (by omega) (by simp only;omega) htr hm2).mono ?_
   rw[HX.out,<- HR3.out];intro e w' hq;obtain⟨rfl,hq2⟩:=vZ h3 hq;go_wp2
   go_end0
   exact⟨rfl,hq2⟩
theorem Ls (r:CS) (c:UInt8) (h1:r.place≠1) (h2:r.place≠2):dF r c=kH r c:=by rw[dF,if_neg h1,if_neg h2]
theorem Lu (g:Nat) (vl vb vt:Value) (r:CS) (c:UInt8) (w:World) (h:KA w g vl vb vt r) (hi:lu r) (hp:r.place=0\/ r.place=3) (hm:ML w) (hh:Hi (foot g vl vb vt)):
 Calls Tryz.prog 347 #[.pointer (some ⟨g,0,none⟩),.int .u8 (c.toNat:Int)] w (nN w g vl vb vt (kH r c)):=by
 by_cases hc:c=10
 ·subst hc
  by_cases hl:r.line.getLast? = some 13
  ·rcases oQ r.line with h0| ⟨P,x,h0⟩
   ·rw[h0]at hl;cases hl
   ·obtain rfl:x=13:=by rw[h0]at hl;simpa using hl
    exact Bd g vl vb vt r P w h hi h0 hp hm hh
  ·exact Bc g vl vb vt r w h hi hl
 ·exact Ba g vl vb vt r c w h hi hc
theorem P9 (g:Nat) (vl vb vt:Value) (r:CS) (c:UInt8) (w:World) (h:KA w g vl vb vt r) (hi:lu r) (hm:ML w) (hh:Hi (foot g vl vb vt)):
 Calls Tryz.prog 333 #[.pointer (some ⟨g,0,none⟩),.int .u8 (c.toNat:Int)] w (nN w g vl vb vt (dF r c)):=by
 by_cases h1:r.place=1
 ·exact AY g vl vb vt r c w h hi h1
 by_cases h2:r.place=2
 ·exact Dn g vl vb vt r c w h hi h2
 have hp:r.place=0\/ r.place=3:=by have:=hi.place;omega
 obtain⟨j0,j1,j2,j3,j4,j5,j6,j7,i0,i1,i2,i3,i4,i5,i6,i7⟩:=Blk.c8 h.blk;have e1:((r.place:Int)==1)=false:=by rw[Bool.eq_false_iff];intro h0;rw[beq_iff_eq]at h0;omega
 have e2:((r.place:Int)==2)=false:=by rw[Bool.eq_false_iff];intro h0;rw[beq_iff_eq]at h0;omega
 rw[Ls r c h1 h2];have hC:=Lu g vl vb vt r c w h hi hp hm hh;clear hi hp hm hh h1 h2 h;go_enter Tryz.func333,Tryz.ntmps333
 go_wp2_with fail
 refine hC.mono ?_;rintro e w' ⟨rfl,hq⟩;go_wp2
 go_end0
 exact⟨rfl,hq⟩
def KR (w:World) (g:Nat) (S:Nat-> Prop) (r:CS):Prop:= ∃vl vb vt,S=foot g vl vb vt/\ KA w g vl vb vt r
theorem KR.lt {w:World} {g:Nat} {S:Nat-> Prop} {r:CS} (h:KR w g S r) {k:Nat} (hk:S k):k<w.heap.size:=by
 obtain⟨vl,vb,vt,rfl,h⟩:=h;exact h.XY hk
theorem KR.fr {w w':World} {g:Nat} {S T:Nat-> Prop} {r:CS} (h:KR w g S r) (hf:Fr T w w') (hs: ∀k,S k-> ¬T k):KR w' g S r:=by
 obtain⟨vl,vb,vt,rfl,h⟩:=h;exact⟨vl,vb,vt,rfl,O3.fr h hf hs⟩
theorem KR.ah {w w':World} {g:Nat} {S:Nat-> Prop} {r:CS} (h:KR w g S r) (hb:Below w.heap.size w w'):KR w' g S r:=by
 obtain⟨vl,vb,vt,rfl,h⟩:=h;exact⟨vl,vb,vt,rfl,O3.ah h hb⟩
theorem KR.g {w:World} {g:Nat} {S:Nat-> Prop} {r:CS} (h:KR w g S r):S g:=by
 obtain⟨vl,vb,vt,rfl,h⟩:=h;exact .inl rfl
theorem Eb: ∀(p:Bs) (r:CS),lu r-> lu (dU r p).2
 | [],r,h=>h
 |c::p,r,h=>by
  cases ho:r.on
  ·rw[rH r _ ho];exact h
  ·rw[qG r c p ho];exact Eb p _ (D7 r c h ho)
def Je (w:World) (g:Nat) (S:Nat-> Prop) (q:Nat×CS) (e:Ending) (w':World):Prop:=
 e= .returned (.tuple #[.int .i64 (q.1:Int),.bool q.2.whole,.int .i64 q.2.status])/\ ∃S',KR w' g S' q.2/\ Moved S S' w w'
theorem Rd.byte {w:World} {B n:Nat} {A:Option Addr} {l:Bs} (h:Rd w B 1 A n (l.map bv)) (k:Nat) (c:UInt8) (hc:l[k]? = some c): ∃b o,A=some ⟨b,o,none⟩/\ b<B/\ w.cell? ⟨b,o+k,none⟩=some (.int .u8 (c.toNat:Int)):=by
 have hl:l.length=n:=by simpa using h.1
 have hk:k<l.length:=(List.getElem?_eq_some_iff.1 hc).1;obtain⟨b,o,e,hb,hx⟩:=h.2 (by omega)
 exact⟨b,o,e,hb,hx k _ (by rw[List.getElem?_map,hc];rfl)⟩
theorem drop_at {l:Bs} {k:Nat} (h:k<l.length): ∃c,l[k]? = some c/\ l.drop k=c::l.drop (k+1):=⟨l[k],by simp[h],List.drop_eq_getElem_cons h⟩
theorem UL (g:Nat) (S:Nat-> Prop) (r:CS) (A:Option Addr) (n c B:Nat) (p:Bs) (w:World) (h:KR w g S r) (hi:lu r) (hA:Rd w B 1 A n (p.map bv)) (hB:B<= w.heap.size)
 (hne:0<n-> ∀a,A=some a-> ¬S a.block) (hn:n<= 1000000) (hm:ML w) (hh:Hi S):
 Calls Tryz.prog 309 #[.pointer (some ⟨g,0,none⟩),.slice A n c] w (Je w g S (dU r p)):=by
 have hl:p.length=n:=by simpa using hA.1
 go_enter Tryz.func309,Tryz.ntmps309
 go_wp2
 go_loopw [4] (fun i wr=> ∃(k:Nat) (r':CS) (S':Nat-> Prop),k<= n/\ i= .int .i64 k/\ KR wr g S' r'/\ lu r'/\ Moved S S' w wr/\ Hid (dU r p=(k+(dU r' (p.drop k)).1,(dU r' (p.drop k)).2))) (fun i _=>n- (intOf i).toNat)
 case atStart=>exact⟨0,r,S,Nat.zero_le _,rfl,h,hi,Moved.refl _ _,Lib.hid (by simp)⟩
 case round=>
  obtain⟨k,r',S',hk,rfl,hK,hI,hM,H⟩:=hrel;have hm2:=hm.fr hM.fr hh;have hh2:=hh.moved hm hM;have hA2:=hA.frm hB hM.fr hne;obtain⟨vl,vb,vt,hS,hKA⟩:=hK;obtain⟨j0,j1,j2,j3,j4,j5,j6,j7,i0,i1,i2,i3,i4,i5,i6,i7⟩:=Blk.c8 hKA.blk;by_cases hlt:k<n
  ·obtain⟨x,hx,hd⟩:=drop_at (l:=p) (k:=k) (by omega)
   cases ho:r'.on
   ·have HR:=Lib.hid (show dU r p=(k,r') by rw[H.out,rH _ _ ho];rfl)
    have hx0:r'.whole=true\/ (r'.whole=false/\ (r'.status==0)=false):=by
     unfold CS.on at ho;cases hw:r'.whole
     ·rw[hw]at ho
      right;refine⟨rfl,?_⟩;rw[Bool.eq_false_iff];intro h0;rw[beq_iff_eq]at h0;rw[h0]at ho;cases ho
     ·exact .inl rfl
    clear hd H hx ho;rcases hx0 with hw| ⟨hw,hst⟩
    ·rw[hw]at j6
     go_wp2
     go_quiet (fail)
     go_wp2
     go_ret3
     exact⟨by rw[HR.out];simp only;rw[hw];rfl,S',by rw[HR.out];exact KR.ah ⟨vl,vb,vt,hS,hKA⟩ (below_drewN' (Below.refl _ _) _),hM.drewN _⟩
    ·rw[hw]at j6
     go_wp2
     go_quiet (fail)
     go_wp2
     go_ret3
     exact⟨by rw[HR.out];simp only;rw[hw];rfl,S',by rw[HR.out];exact KR.ah ⟨vl,vb,vt,hS,hKA⟩ (below_drewN' (Below.refl _ _) _),hM.drewN _⟩
   ·obtain⟨hw,hst⟩:=CS.eY _ ho
    have HR:=Lib.hid (show dU r p=((k+1)+(dU (dF r' x) (p.drop (k+1))).1,(dU (dF r' x) (p.drop (k+1))).2) by rw[H.out,hd,qG _ _ _ ho];exact Prod.ext (by simp only;omega) rfl)
    have hI2:=D7 r' x hI ho;obtain⟨b,o,rfl,hb,hcell⟩:=hA2.byte k x hx;rw[hw]at j6;rw[hst]at j7;clear hx hd H ho;go_wp2_with fail
    subst hS;refine(P9 g vl vb vt r' x wr hKA hI hm2 hh2).mono ?_;rintro e w1 ⟨rfl,vl',vb',vt',hKA',hM'⟩;go_wp2_with fail
    go_roundw
    case rel=>exact⟨k+1,dF r' x,_,by omega,by go_num,⟨_,_,_,rfl,hKA'⟩,hI2,hM.trans hM',HR⟩
    case measure=>simp[intOf];omega
  ·have HR:=Lib.hid (show dU r p=(k,r') by rw[H.out,List.drop_of_length_le (by omega)];rfl)
   clear H;go_wp2
   go_quiet (fail)
   go_wp2
   go_ret3
   exact⟨by rw[HR.out];rfl,S',by rw[HR.out];exact KR.ah ⟨vl,vb,vt,hS,hKA⟩ (below_drewN' (Below.refl _ _) _),hM.drewN _⟩
def Yu (w:World) (e:Ending) (w':World):Prop:= ∃g S,e= .returned (.pointer (some ⟨g,0,none⟩))/\ KR w' g S cs0/\ (∀k,S k-> w.heap.size<= k)/\ Below w.heap.size w w'
theorem aak (w:World):KA (w.alloc (.cells #[.int .i64 0,.slice none 0 0,.int .i64 0,.slice none 0 0,.slice none 0 0,.int .i64 0,.bool false,.int .i64 0] 399)) w.heap.size (.slice none 0 0) (.slice none 0 0) (.slice none 0 0) cs0:=
 ⟨Blk.new' _ _ rfl _ _,OB.nil _ _,OB.nil _ _,OF.nil _ _,by simp[Value.ownBlock],by simp[Value.ownBlock],by simp[Value.ownBlock],by simp[Value.ownBlock],by simp[Value.ownBlock],by simp[Value.ownBlock]⟩
theorem UM (g k:Nat) (h:foot g (.slice none 0 0) (.slice none 0 0) (.slice none 0 0) k):k=g:=by
 rcases h with h|h|h|h
 ·exact h
 all_goals simp[Value.ownBlock]at h
theorem Yv (w:World):Calls Tryz.prog 346 #[] w (Yu w):=by
 have hA:=aak w;go_enter Tryz.func346,Tryz.ntmps346
 go_wp2
 go_ret
 exact⟨_,_,rfl,⟨_,_,_,rfl,hA⟩,fun k hk=>by rw[UM _ _ hk];exact Nat.le_refl _,aj (Below.refl _ _) _⟩
theorem nO (A:Option Addr) (c B:Nat) (l:Bs) (w:World) (h:Rd w B 1 A l.length (l.map bv)) (hA:A=none-> l= []) (hl:l.length<= 140737488355328):
 Calls Tryz.prog 31 #[.slice A l.length c] w (rG w l):=by
 cases A with
 |none=>
  obtain rfl:=hA rfl;refine(Tryz.bytes_Clone_nil 0 c w).mono ?_;rintro e w' ⟨rfl,rfl⟩;exact⟨_,rfl,OB.nil _ _,Below.refl _ _⟩
 |some a=>
  refine(Tryz.bytes_Clone_at a l.length c (l.map fun b=>(b.toNat:Int)) w (by simp) hl ?_).mono ?_
  ·intro i hi
   obtain⟨b,hb,-⟩:=drop_at hi;obtain⟨g,o,e,-,hc⟩:=h.byte i b hb;injection e with e
   subst e;rw[gu,hc];simp[List.getD,hb]
  ·rintro e w' ⟨v,rfl,h1,-,h2⟩
   refine⟨v,rfl,?_,h2⟩;unfold OB;have h3:=Own.of h1;rw[List.map_map]at h3;exact h3
theorem OB.form2 {w:World} {base:Nat} {v:Value} {l:Bs} (h:OB w base v l): ∃A c,v= .slice A l.length c/\ l.length<= c/\ c<= maxLen/\ Rd w w.heap.size 1 A l.length (l.map bv)/\ (A=none-> l= []):=by
 obtain⟨A,c,h1,h2,h3,h4,h5⟩:=Own.rd h;exact⟨A,c,h1,h2,h3,h4,fun ha=>List.eq_nil_of_length_eq_zero (by have:=h5 ha;omega)⟩
theorem Jf (g:Nat) (S:Nat-> Prop) (r:CS) (w:World) (h:KR w g S r) (hi:lu r):
 Calls Tryz.prog 310 #[.pointer (some ⟨g,0,none⟩)] w (rG w r.body):=by
 obtain⟨vl,vb,vt,hS,hKA⟩:=h;obtain⟨A,c,rfl,h1,h2,h3,h4⟩:=OB.form2 hKA.ob;obtain⟨j0,j1,j2,j3,j4,j5,j6,j7,i0,i1,i2,i3,i4,i5,i6,i7⟩:=Blk.c8 hKA.blk;have hb:=hi.body;have hb2:r.body.length<= 2048:=by omega
 go_enter Tryz.func310,Tryz.ntmps310
 go_wp2_with fail
 refine(nO A c _ r.body w h3 h4 (by omega)).mono ?_
 rintro e w' ⟨v,rfl,hv,L⟩;go_wp2
 go_ret
 exact⟨_,rfl,hv,L⟩
end Go.Proofs.YtdmondfpepbniaaGreatDoor
