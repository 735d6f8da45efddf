/- Part 6 of the proof: Tgt5 ByP Fmt Vc Build. -/
import Derived.Deep.RegionLaw
import Derived.Deep.RegionWith
import Derived.Laws.StructEq
import Derived.BigRegion
import Derived.ChangeAlike
import Derived.Maps.OwnIn
import Derived.Maps.RangeWalk
import Derived.Lib.Builder
import Derived.Lib.MakeNoZero
import Derived.Laws.Externs
import Derived.StillTailTactics
import Derived.Test.YtdmondfpepbniaaGreatDoorQ03
import Derived.Test.YtdmondfpepbniaaGreatDoorQ04
namespace Go.Proofs.YtdmondfpepbniaaGreatDoor
open Go.RowKit
set_option maxRecDepth 100000
set_option maxHeartbeats 4000000
set_option linter.all false
def TY:Bs:= [104,116,116,112,58,47,47]
def Ua:Bs:= [67,79,78,78,69,67,84]
def optB:Bs:= [79,80,84,73,79,78,83]
def preB (p l:Bs):Bool:=p.isPrefixOf l
def KZ (l:Bs):Bs:=iP 63 (iP 47 l)
def IQ (l:Bs):Bs:=let r:=l.drop (KZ l).length;if preB [47] r then r else 47::r
def X3 (l:Bs):Tgt×Int:=if tN (KZ l)then tH ⟨2,dY (KZ l),[],[]⟩ (IQ l)else(bY,8)
def bT (m l:Bs):Tgt×Int:=
 if 200<l.length then(bY,9)
 else if m=Ua then(if inB l 58&&tN l then(⟨3,dY l,[],[]⟩,0)else(bY,8))
 else if m=optB/\ l= [42]then(⟨4,[],[],[]⟩,0)
 else if preB [47] l then tH ⟨1,[],[],[]⟩ l
 else if preB TY (dY l)then X3 (l.drop 7)
 else(bY,8)
theorem Ya (l:Bs) (c:UInt8):decide (0<= Lib.indexByte l c)=inB l c:=by
 have h:=KI l c;unfold inB;cases hc:l.contains c
 ·rw[hc]at h
  have: ¬0<= Lib.indexByte l c:=fun hh=>by simpa using h.1 hh
  simp;omega
 ·have:=h.2 hc
  simp;omega
theorem mF (s:ByteArray) (c:UInt8) (w:World):
 Calls Tryz.prog 379 #[.string s,.string ⟨#[c]⟩] w fun e w'=>e= .returned (.bool (inB s.data.toList c))/\ w=w':=by
 refine(Tryz.strings_Contains_one s c w).mono ?_;rw[Ya];rintro e w' ⟨rfl,rfl⟩;exact⟨rfl,rfl⟩
theorem FZ (s p:ByteArray) (w:World):
 Calls Tryz.prog 203 #[.string s,.string p] w fun e w'=>e= .returned (.bool (preB p.data.toList s.data.toList))/\ w=w':=by
 refine(Tryz.strings_HasPrefix s p w).mono ?_;rintro e w' ⟨rfl,rfl⟩;exact⟨rfl,rfl⟩
theorem Ub (s:ByteArray) (c:Int) (w:World):
 Calls Tryz.prog 219 #[.string s,.int .u8 c] w fun e w'=>e= .returned (.int .i64 (Lib.indexByte s.data.toList c.toNat.toUInt8))/\ w=w':=by
 refine(Tryz.strings_IndexByte s c w).mono ?_;rintro e w' ⟨rfl,rfl⟩;exact⟨rfl,rfl⟩
theorem IU (X:ByteArray) (c:UInt8):(Lib.indexByte X.data.toList c= -1/\ iP c X.data.toList=X.data.toList)\/ ∃k:Nat,Lib.indexByte X.data.toList c=k/\ k<X.size/\ iP c X.data.toList=X.data.toList.take k:=by
 have key: ∀l:Bs,(Lib.indexByte l c= -1/\ iP c l=l)\/ ∃k:Nat,Lib.indexByte l c=k/\ k<l.length/\ iP c l=l.take k:=by
  intro l
  induction l with
  |nil=>exact .inl ⟨rfl,rfl⟩
  |cons b l ih=>
   by_cases h:b=c
   ·subst h
    exact .inr ⟨0,by simp[Lib.indexByte],by simp,by simp[iP]⟩
   ·have hn:(b==c)=false:=by simpa using h
    have hn2:(b != c)=true:=by simpa using h
    simp only[Lib.indexByte,hn,iP,List.takeWhile_cons,hn2,if_true]at ih⊢;rcases ih with⟨h1,h2⟩| ⟨k,h1,h2,h3⟩
    ·exact .inl ⟨by simp[h1],by rw[h2]⟩
    ·refine .inr ⟨k+1,?_,by simp;omega,by simp[h3]⟩
     rw[h1];simp
 have:=key X.data.toList;rw[au]at this;exact this
theorem Yb (p l:Bs) (h:preB p l=true):p.length<= l.length:=by
 unfold preB at h;exact(List.isPrefixOf_iff_prefix.1 h).length_le
theorem F6 (t:Tgt) (e:Int):tgR (t,e)= .tuple #[lF t,.int .i64 e]:=rfl
theorem Uc (l:Bs):(dY l).length=l.length:=by simp[dY]
theorem PD (m s:ByteArray) (w:World) (hs:s.size<4294967281) (hm:ML w):
 Calls Tryz.prog 362 #[.string m,.string s] w fun e w'=>e= .returned (tgR (bT m.data.toList s.data.toList))/\ Below w.heap.size w w':=by
 have eM:m.toList=m.data.toList:=ByteArray.toList_eq _;have eS:s.toList=s.data.toList:=ByteArray.toList_eq _;have hl:=au s;have hsm:s.size<= maxLen:=by unfold maxLen;omega
 by_cases h200:200<s.size
 ·have HR:=Lib.hid (show bT m.data.toList s.data.toList=(bY,9) by rw[bT,if_pos (by omega)])
  clear eM eS hl hm hsm;go_enter Tryz.func362,Tryz.ntmps362
  go_wp2
  refine bodyPost_ret (v:=.tuple #[lF bY,.int .i64 9]) (by simp[results,Tryz.results362,go_sem,bY]) rfl ⟨by rw[HR.out];rfl,?_⟩
  repeat refine setW ?_ (by simp) _
  exact aj (Below.refl _ _) _
 have hle:s.size<= 200:=by omega
 have e0: ¬(200<s.data.toList.length):=by omega
 clear hl h200;by_cases hC:m.data.toList=Ua
 ·have t1:(m.toList== [67,79,78,78,69,67,84])=true:=by rw[eM,hC];rfl
  cases hI:inB s.data.toList 58
  ·have HR:=Lib.hid (show bT m.data.toList s.data.toList=(bY,8) by rw[bT,if_neg e0,if_pos hC,hI];rfl)
   clear e0 hC eM eS hm hsm;go_enter Tryz.func362,Tryz.ntmps362
   go_wp2_with fail
   refine(mF s 58 _).mono ?_;rw[hI];rintro e w1 ⟨rfl,rfl⟩;clear hI;go_wp2
   refine bodyPost_ret (v:=.tuple #[lF bY,.int .i64 8]) (by simp[results,Tryz.results362,go_sem,bY]) rfl ⟨by rw[HR.out];rfl,?_⟩
   repeat refine setW ?_ (by simp) _
   exact aj (Below.refl _ _) _
  ·cases hH:tN s.data.toList
   ·have HR:=Lib.hid (show bT m.data.toList s.data.toList=(bY,8) by rw[bT,if_neg e0,if_pos hC,hI,hH];rfl)
    clear e0 hC eM eS hsm;go_enter Tryz.func362,Tryz.ntmps362
    go_wp2_with fail
    refine(mF s 58 _).mono ?_;rw[hI];rintro e w1 ⟨rfl,rfl⟩;go_wp2_with fail
    obtain⟨W2,hW⟩: ∃W2,W2=w.alloc (.cells #[.int .i64 0,.string ⟨#[]⟩,.string ⟨#[]⟩,.string ⟨#[]⟩] 314):=⟨_,rfl⟩;rw[<- hW];have B1:Blk W2 w.heap.size 314 #[.int .i64 0,.string ⟨#[]⟩,.string ⟨#[]⟩,.string ⟨#[]⟩]:=by rw[hW];exact Blk.new' _ _ rfl _ _
    have LW:Below w.heap.size w W2:=by rw[hW];exact aj (Below.refl _ _) _
    have hm2:=hm.below LW (Nat.le_refl _);clear hW hm;refine(qB s W2 hs hm2).mono ?_;rw[hH];rintro e w1 ⟨rfl,L1⟩;obtain⟨j0,j1,j2,j3,i0,i1,i2,i3⟩:=(B1.ah L1).c4;have LL:=stepW LW L1;clear hI hH;go_wp2
    refine bodyPost_ret (v:=.tuple #[lF bY,.int .i64 8]) (by simp[results,Tryz.results362,go_sem,bY,j0,j1,j2,j3]) rfl ⟨by rw[HR.out];rfl,?_⟩
    repeat refine setW ?_ (by simp) _
    exact LL
   ·have HR:=Lib.hid (show bT m.data.toList s.data.toList=(⟨3,dY s.data.toList,[],[]⟩,0) by rw[bT,if_neg e0,if_pos hC,hI,hH];rfl)
    clear e0 hC eM eS;go_enter Tryz.func362,Tryz.ntmps362
    go_wp2_with fail
    refine(mF s 58 _).mono ?_;rw[hI];rintro e w1 ⟨rfl,rfl⟩;go_wp2_with fail
    obtain⟨W2,hW⟩: ∃W2,W2=w.alloc (.cells #[.int .i64 0,.string ⟨#[]⟩,.string ⟨#[]⟩,.string ⟨#[]⟩] 314):=⟨_,rfl⟩;rw[<- hW];have B1:Blk W2 w.heap.size 314 #[.int .i64 0,.string ⟨#[]⟩,.string ⟨#[]⟩,.string ⟨#[]⟩]:=by rw[hW];exact Blk.new' _ _ rfl _ _
    have LW:Below w.heap.size w W2:=by rw[hW];exact aj (Below.refl _ _) _
    have hm2:=hm.below LW (Nat.le_refl _);clear hW hm;refine(qB s W2 hs hm2).mono ?_;rw[hH];rintro e w1 ⟨rfl,L1⟩;clear hI hH;go_wp2_with fail
    refine(jw s w1 hsm).mono ?_;rintro e w2 ⟨rfl,L2⟩;obtain⟨j0,j1,j2,j3,i0,i1,i2,i3⟩:=((B1.ah L1).ah L2).c4;have LL:=stepW (stepW LW L1) L2;go_wp2
    refine bodyPost_ret (v:=.tuple #[lF ⟨3,dY s.data.toList,[],[]⟩,.int .i64 0]) (by simp[results,Tryz.results362,go_sem,j0,j1,j2,j3]) rfl ⟨by rw[HR.out];rfl,?_⟩
    repeat refine setW ?_ (by simp) _
    exact LL
 have t1:(m.toList== [67,79,78,78,69,67,84])=false:=by rw[eM];simpa [Ua] using hC
 by_cases hO:m.data.toList=optB/\ s.data.toList= [42]
 ·have t2:m.toList= [79,80,84,73,79,78,83]:=by rw[eM,hO.1];rfl
  have t3:(s.toList== [42])=true:=by rw[eS,hO.2];rfl
  have HR:=Lib.hid (show bT m.data.toList s.data.toList=(⟨4,[],[],[]⟩,0) by rw[bT,if_neg e0,if_neg hC,if_pos hO])
  have T2:=Lib.hid t2;have t2':(m.toList== [79,80,84,73,79,78,83])=true:=by rw[t2];rfl
  clear e0 hC eM eS hm hsm hO t1;have t1:(m.toList== [67,79,78,78,69,67,84])=false:=by rw[t2];rfl
  go_enter Tryz.func362,Tryz.ntmps362
  go_wp2
  refine bodyPost_ret (v:=.tuple #[lF ⟨4,[],[],[]⟩,.int .i64 0]) (by simp[results,Tryz.results362,go_sem]) rfl ⟨by rw[HR.out];rfl,?_⟩
  repeat refine setW ?_ (by simp) _
  exact aj (Below.refl _ _) _
 have t2:m.toList= [79,80,84,73,79,78,83]->(s.toList== [42])=false:=by
  rw[eM,eS];intro h;rw[Bool.eq_false_iff];intro h2;exact hO ⟨h,by simpa using h2⟩
 have LW:Below w.heap.size w (w.alloc (.cells #[.int .i64 0,.string ⟨#[]⟩,.string ⟨#[]⟩,.string ⟨#[]⟩] 314)):=aj (Below.refl _ _) _;have B1:Blk (w.alloc (.cells #[.int .i64 0,.string ⟨#[]⟩,.string ⟨#[]⟩,.string ⟨#[]⟩] 314)) w.heap.size 314 #[.int .i64 0,.string ⟨#[]⟩,.string ⟨#[]⟩,.string ⟨#[]⟩]:=Blk.new' _ _ rfl _ _;have hm2:=hm.below LW (Nat.le_refl _);clear hm;have HO:=Lib.hid hO;have HC:=Lib.hid hC;have E0:=Lib.hid e0;clear hO hC e0 eM eS;go_enter Tryz.func362,Tryz.ntmps362
 go_upto_region 7 with(fail)
 go_cut [30] (fun v wx=>v= .bool false/\ wx=w.alloc (.cells #[.int .i64 0,.string ⟨#[]⟩,.string ⟨#[]⟩,.string ⟨#[]⟩] 314))
 case first=>
  by_cases hm7:m.toList= [79,80,84,73,79,78,83]
  ·have t4:=t2 hm7
   go_wp2_with fail
   go_meet
   case rel=>exact⟨rfl,rfl⟩
  ·go_wp2_with fail
   go_meet
   case rel=>exact⟨rfl,rfl⟩
 case rest=>
  obtain⟨rfl,rfl⟩:=hcut;clear t2 t1;obtain⟨W2,hW⟩: ∃W2,W2=w.alloc (.cells #[.int .i64 0,.string ⟨#[]⟩,.string ⟨#[]⟩,.string ⟨#[]⟩] 314):=⟨_,rfl⟩;rw[<- hW]at B1 LW hm2⊢;clear hW;go_wp2_with fail
  refine(FZ s _ _).mono ?_;rw[show(⟨#[47]⟩:ByteArray).data.toList= [47]from rfl]
  cases hP:preB [47] s.data.toList
  ·rintro e w1 ⟨rfl,rfl⟩
   go_wp2_with fail
   refine(jw s W2 hsm).mono ?_;rintro e w1 ⟨rfl,L1⟩;go_wp2_with fail
   refine(FZ _ _ _).mono ?_;rw[show(⟨(dY s.data.toList).toArray⟩:ByteArray).data.toList=dY s.data.toList from rfl,show(⟨#[104,116,116,112,58,47,47]⟩:ByteArray).data.toList=TY from rfl]
   cases hQ:preB TY (dY s.data.toList)
   ·have HR:=Lib.hid (show bT m.data.toList s.data.toList=(bY,8) by rw[bT,if_neg E0.out,if_neg HC.out,if_neg HO.out,hP,hQ];rfl)
    rintro e w2 ⟨rfl,rfl⟩;obtain⟨j0,j1,j2,j3,i0,i1,i2,i3⟩:=(B1.ah L1).c4;have LL:=stepW LW L1;clear hP hQ;go_wp2
    refine bodyPost_ret (v:=.tuple #[lF bY,.int .i64 8]) (by simp[results,Tryz.results362,go_sem,bY,j0,j1,j2,j3]) rfl ⟨by rw[HR.out];rfl,?_⟩
    repeat refine setW ?_ (by simp) _
    exact LL
   ·have HR0:=Lib.hid (show bT m.data.toList s.data.toList=X3 (s.data.toList.drop 7) by rw[bT,if_neg E0.out,if_neg HC.out,if_neg HO.out,hP,hQ];rfl)
    have h7:=Yb _ _ hQ;rw[Uc,au]at h7;have h7':7<= s.size:=h7;rintro e w2 ⟨rfl,rfl⟩;clear hP hQ h7;have K1:=stepW LW L1;have hm3:=hm2.below L1 (Nat.le_refl _);have B2:=B1.ah L1;clear B1 L1 LW hm2 HO HC E0;obtain⟨X,hX⟩: ∃X,X=s.extract 7 s.size:=⟨_,rfl⟩;have hXl:X.data.toList=s.data.toList.drop 7:=by rw[hX,iK]
    have hXs:X.size<= 193:=by rw[hX,ext_size _ _ _ h7' (Nat.le_refl _)];omega
    rw[<- hXl]at HR0;clear hXl;go_wp2_with fail
    rw[<- hX];clear hX;refine(Ub X 47 w1).mono ?_;rw[show(47:Int).toNat.toUInt8=47 from rfl]
    have hx1:=IU X 47;generalize Lib.indexByte X.data.toList 47=ix1 at hx1⊢;rintro e w9 ⟨rfl,rfl⟩
    go_upto_if 56 with(fail)
    go_cut [7] (fun v wx=> ∃Y:ByteArray,v= .string Y/\ Hid (Y.data.toList=iP 47 X.data.toList)/\ w1=wx)
    case first=>
     rcases hx1 with⟨h1,h2⟩| ⟨k1,h1,hk1,h2⟩
     ·have H2:=Lib.hid h2
      clear h2;subst h1;go_wp2_with fail
      go_meet
      case rel=>exact⟨X,rfl,H2.out.symm,rfl⟩
     ·have H2:=Lib.hid h2
      clear h2;subst h1;go_wp2_with fail
      go_meet
      case rel=>exact⟨_,rfl,(by rw[zG,H2.out]:(X.extract 0 k1).data.toList=iP 47 X.data.toList),rfl⟩
    case rest=>
     obtain⟨Y,rfl,HY,rfl⟩:=hcut;clear hx1;have hYs:Y.size<= X.size:=by rw[<- au,<- au,HY.out];exact qA 47 _
     go_wp2_with fail
     refine(Ub Y 63 _).mono ?_;rw[show(63:Int).toNat.toUInt8=63 from rfl]
     have hx2:=IU Y 63;generalize Lib.indexByte Y.data.toList 63=ix2 at hx2⊢;rintro e w9 ⟨rfl,rfl⟩
     go_upto_if 63 with(fail)
     go_cut [7] (fun v wx=> ∃Z:ByteArray,v= .string Z/\ Hid (Z.data.toList=iP 63 Y.data.toList)/\ w1=wx)
     case first=>
      rcases hx2 with⟨h1,h2⟩| ⟨k1,h1,hk1,h2⟩
      ·have H2:=Lib.hid h2
       clear h2;subst h1;go_wp2_with fail
       go_meet
       case rel=>exact⟨Y,rfl,H2.out.symm,rfl⟩
      ·have H2:=Lib.hid h2
       clear h2;subst h1;go_wp2_with fail
       go_meet
       case rel=>exact⟨_,rfl,(by rw[zG,H2.out]:(Y.extract 0 k1).data.toList=iP 63 Y.data.toList),rfl⟩
     case rest=>
      obtain⟨Z,rfl,HZ0,rfl⟩:=hcut;clear hx2;have HZ:Hid (Z.data.toList=KZ X.data.toList):=by rw[HZ0.out,KZ,HY.out];exact Lib.hid rfl
      have hZs:Z.size<= X.size:=Nat.le_trans (by rw[<- au,<- au,HZ0.out];exact qA 63 _) hYs
      clear HZ0 HY hYs;go_wp2_with fail
      refine(qB Z _ (by omega) hm3).mono ?_
      rw[HZ.out];cases hH:tN (KZ X.data.toList)
      ·have HR:=Lib.hid (show bT m.data.toList s.data.toList=(bY,8) by rw[HR0.out,X3,hH];rfl)
       clear hH;rintro e w3 ⟨rfl,L3⟩;obtain⟨j0,j1,j2,j3,i0,i1,i2,i3⟩:=(B2.ah L3).c4;have LL:=stepW K1 L3;go_wp2
       refine bodyPost_ret (v:=.tuple #[lF bY,.int .i64 8]) (by simp[results,Tryz.results362,go_sem,bY,j0,j1,j2,j3]) rfl ⟨by rw[HR.out];rfl,?_⟩
       repeat refine setW ?_ (by simp) _
       exact LL
      ·have HR1:=Lib.hid (show bT m.data.toList s.data.toList=tH ⟨2,dY Z.data.toList,[],[]⟩ (IQ X.data.toList) by rw[HR0.out,X3,hH,if_pos rfl,HZ.out])
       clear hH HR0;rintro e w3 ⟨rfl,L3⟩;obtain⟨R,hR⟩: ∃R,R=X.extract Z.size X.size:=⟨_,rfl⟩;have hRl:R.data.toList=X.data.toList.drop (KZ X.data.toList).length:=by rw[hR,iK,<- HZ.out,au]
       have hRs:R.size<= X.size:=by rw[<- au,<- au X,hRl,List.length_drop];omega
       have HRl:=Lib.hid hRl;clear hRl;go_wp2_with fail
       rw[<- hR];clear hR;refine(FZ R _ _).mono ?_;rw[show(⟨#[47]⟩:ByteArray).data.toList= [47]from rfl]
       cases hP2:preB [47] R.data.toList
       ·rintro e w9 ⟨rfl,rfl⟩
        obtain⟨R2,hR2⟩: ∃R2,R2=(⟨#[47]⟩++R:ByteArray):=⟨_,rfl⟩;have ZW:R2.data.toList=IQ X.data.toList:=by rw[hR2,jL,IQ,<- HRl.out,hP2];rfl
        have ZX:R2.size<4294967281:=by rw[hR2,ByteArray.size_append];show 1+R.size<4294967281;omega
        have hR2e:(⟨#[47]⟩++R:ByteArray)=R2:=hR2.symm;have HR:=HR1;clear hR2 hP2;have B5:=B2.ah L3;clear B2;have K3:=stepW K1 L3;have hm4:=hm3.below L3 (Nat.le_refl _);go_wp2_with fail
        refine(jw Z w3 (by unfold maxLen;omega)).mono ?_
        rintro e w4 ⟨rfl,L4⟩;have B6:=B5.ah L4;have K4:=stepW K3 L4;have hm5:=hm4.below L4 (Nat.le_refl _);go_wp2_with fail
        refine(uF ⟨2,dY Z.data.toList,[],[]⟩ R2 w4 ZX hm5).mono ?_;rw[ZW];generalize tH ⟨2,dY Z.data.toList,[],[]⟩ (IQ X.data.toList)=r at HR;obtain⟨t,er⟩:=r;rw[F6];rintro e w5 ⟨rfl,L5⟩;obtain⟨j0,j1,j2,j3,i0,i1,i2,i3⟩:=(B6.ah L5).c4;have LL:=stepW K4 L5;go_wp2
        refine bodyPost_ret (v:=.tuple #[lF t,.int .i64 er]) (by simp[results,Tryz.results362,go_sem,j0,j1,j2,j3]) rfl ⟨by rw[HR.out];rfl,?_⟩
        repeat refine setW ?_ (by simp) _
        exact LL
       ·rintro e w9 ⟨rfl,rfl⟩
        obtain⟨R2,hR2⟩: ∃R2,R2=R:=⟨_,rfl⟩;have ZW:R2.data.toList=IQ X.data.toList:=by rw[hR2,IQ,<- HRl.out,hP2];rfl
        subst hR2;have ZX:R2.size<4294967281:=by omega
        have HR:=HR1;clear hP2;have B5:=B2.ah L3;clear B2;have K3:=stepW K1 L3;have hm4:=hm3.below L3 (Nat.le_refl _);go_wp2_with fail
        refine(jw Z w3 (by unfold maxLen;omega)).mono ?_
        rintro e w4 ⟨rfl,L4⟩;have B6:=B5.ah L4;have K4:=stepW K3 L4;have hm5:=hm4.below L4 (Nat.le_refl _);go_wp2_with fail
        refine(uF ⟨2,dY Z.data.toList,[],[]⟩ R2 w4 ZX hm5).mono ?_;rw[ZW];generalize tH ⟨2,dY Z.data.toList,[],[]⟩ (IQ X.data.toList)=r at HR;obtain⟨t,er⟩:=r;rw[F6];rintro e w5 ⟨rfl,L5⟩;obtain⟨j0,j1,j2,j3,i0,i1,i2,i3⟩:=(B6.ah L5).c4;have LL:=stepW K4 L5;go_wp2
        refine bodyPost_ret (v:=.tuple #[lF t,.int .i64 er]) (by simp[results,Tryz.results362,go_sem,j0,j1,j2,j3]) rfl ⟨by rw[HR.out];rfl,?_⟩
        repeat refine setW ?_ (by simp) _
        exact LL
  ·have HR:=Lib.hid (show bT m.data.toList s.data.toList=tH ⟨1,[],[],[]⟩ s.data.toList by rw[bT,if_neg E0.out,if_neg HC.out,if_neg HO.out,if_pos hP])
   rintro e w1 ⟨rfl,rfl⟩;go_wp2_with fail
   refine(uF ⟨1,[],[],[]⟩ s W2 hs hm2).mono ?_;generalize tH ⟨1,[],[],[]⟩ s.data.toList=r at HR;obtain⟨t,er⟩:=r;rw[F6];rintro e w1 ⟨rfl,L1⟩;obtain⟨j0,j1,j2,j3,i0,i1,i2,i3⟩:=(B1.ah L1).c4;have LL:=stepW LW L1;clear hP;go_wp2
   refine bodyPost_ret (v:=.tuple #[lF t,.int .i64 er]) (by simp[results,Tryz.results362,go_sem,j0,j1,j2,j3]) rfl ⟨by rw[HR.out];rfl,?_⟩
   repeat refine setW ?_ (by simp) _
   exact LL
def rG (w:World) (l:Bs) (e:Ending) (w':World):Prop:= ∃v,e= .returned v/\ OB w' w.heap.size v l/\ Below w.heap.size w w'
def TZ (w:World):Prop:=w.cell? ⟨7,15,none⟩=some (.int .u8 4)
theorem TZ.below {w w':World} {B:Nat} (h:TZ w) (hb:Below B w w') (hB:w.heap.size<= B):TZ w':=by
 have h1:7<w.heap.size:=by
  rcases Nat.lt_or_ge 7 w.heap.size with h1|h1
  ·exact h1
  ·unfold TZ at h;simp[World.cell?,Array.getElem?_eq_none h1]at h
 exact(hb.cell (p:=⟨7,15,none⟩) (Nat.lt_of_lt_of_le h1 hB)).trans h
theorem ZY (w:World) (h:TZ w):
 Calls Tryz.prog 359 #[.int .u64 16] w fun e w'=>e= .returned (.int .i64 4)/\ w=w':=by
 unfold TZ at h;have b0:bits BinOp.and IntKind.u64 16 (IntKind.u64.wrap (-16))=16:=by decide +kernel
 have b1:IntKind.u64.wrap (16*285870213051353865)=4573923408821661840:=by decide +kernel
 have b2:(4573923408821661840:Int) / 288230376151711744=15:=by decide +kernel
 go_enter Tryz.func359,Tryz.ntmps359
 go_wp2
 go_ret
 exact⟨rfl,rfl⟩
theorem Yc (w:World) (h:TZ w):
 Calls Tryz.prog 342 #[.int .u64 16] w fun e w'=>e= .returned (.int .i64 4)/\ w=w':=by
 go_enter Tryz.func342,Tryz.ntmps342
 go_wp2_with (go_at_call 359;refine(ZY _ h).mono ?_;rintro e w' ⟨rfl,rfl⟩)
 go_ret
 exact⟨rfl,rfl⟩
theorem Ud (w:World):
 Calls Tryz.prog 341 #[.int .i64 16] w fun e w'=>e= .returned (.bool true)/\ w=w':=by
 have b1:bits BinOp.and IntKind.i64 16 15=0:=by decide +kernel
 go_enter Tryz.func341,Tryz.ntmps341
 go_wp2
 go_ret
 exact⟨rfl,rfl⟩
def D36:ByteArray:=⟨#[48,49,50,51,52,53,54,55,56,57,97,98,99,100,101,102,103,104,105,106,107,108,109,110,111,112,113,114,115,116,117,118,119,120,121,122]⟩
theorem Ue (d:Nat) (h:d<16):PlainAid.bt D36 d=((dch d).toNat:Int):=by
 have: ∀e:Fin 16,PlainAid.bt D36 e.val=((dch e.val).toNat:Int):=by decide
 exact this ⟨d,h⟩
theorem and15 (m:Nat) (h:m<= 9223372036854775807):bits BinOp.and IntKind.u64 (m:Int) 15=((m % 16:Nat):Int):=by
 rw[show(15:Int)=((15:Nat):Int)from rfl,u64_and_nat m 15 (by omega) (by omega),show(15:Nat)=2 ^ 4-1 from rfl,Nat.and_two_pow_sub_one_eq_mod]
theorem set_drop (cs:Array Value) (k:Nat) (hk:0<k) (hs:k<= cs.size) (v:Value) (l:List Value) (h:cs.toList.drop k=l):(cs.setIfInBounds (k-1) v).toList.drop (k-1)=v::l:=by
 rw[Array.toList_setIfInBounds,List.drop_eq_getElem_cons (by simp;omega),show k-1+1=k by omega]
 simp only[List.getElem_set_self,List.cons.injEq,true_and];rw[<- h];simp only[List.drop_set];rw[if_pos (by omega)]
theorem Z4 (N:Nat) (w:World) (h:TZ w) (hN:N<= 9223372036854775807):
 Calls Tryz.prog 329 #[.slice none 0 0,.int .u64 N,.int .i64 16,.bool false,.bool false] w fun e w'=>e= .returned (.tuple #[.slice none 0 0,sv (eG 16 N)])/\ Below w.heap.size w w':=by
 have hal:Tryz.prog.arrayLen 408=65:=by kernel_rfl
 have hat:Tryz.prog.underlying 408=some (.array 65 5):=by kernel_rfl
 have HAL:=Lib.hid hal;clear hal;go_enter Tryz.func329,Tryz.ntmps329
 go_wp2_with (first
  | (go_at_call 341;refine(Ud _).mono ?_;rintro e w' ⟨rfl,rfl⟩)
  | (go_at_call 342;refine(Yc _ (h.below ((Below.refl _ _).alloc (Nat.le_refl _) _) (Nat.le_refl _))).mono ?_;rintro e w' ⟨rfl,rfl⟩))
 clear h;go_loopw [1,13] (fun u i wr=> ∃(m k:Nat) (cs:Array Value) (acc:Bs),u= .int .u64 m/\ i= .int .i64 k/\ 50<= k/\ k<= 65/\ m<= 9223372036854775807/\ Hid (m<16 ^ (k-49))/\ Blk wr w.heap.size 408 cs/\ Hid (cs.size=65/\ cs.toList.drop k=acc.map bv/\ eG 16 N=eG 16 m++acc)/\ Below w.heap.size w wr) (fun u _ _=>(intOf u).toNat)
 case atStart=>exact⟨N,65,Tryz.zeroCells408,[],rfl,rfl,by omega,by omega,by omega,show N<16 ^ 16 by omega,Blk.new' w _ rfl _ _,⟨by kernel_rfl,by kernel_rfl,by simp⟩,aj (Below.refl _ _) _⟩
 case round=>
  obtain⟨m,k,cs,acc,rfl,rfl,hk0,hk1,hm,Hp,hb,Hc,L⟩:=hrel;have hdx:=PlainAid.get_bt D36;unfold D36 at hdx;have hsz:=Hc.out.1;have hcell:wr.cell? ⟨w.heap.size,k-1,none⟩=some (cs.getD (k-1) undef):=by rw[hb.cell,Array.getD_eq_getD_getElem?,Array.getElem?_eq_getElem (by omega)];rfl
  have hfro:=hb.frozen (k-1);have Hsz:=Lib.hid hsz;clear hsz;by_cases hlt:16<= m
  ·have ha:=and15 m hm
   have hd:=Ue (m % 16) (by omega)
   unfold D36 at hd;go_wp2
   go_roundw
   case rel=>
    refine⟨m / 16,k-1,cs.setIfInBounds (k-1) (bv (dch (m % 16))),dch (m % 16)::acc,by go_num,by go_num,?_,by omega,by omega,?_,hb.ay _ _,⟨by simp[Hsz.out],?_,?_⟩,setW L (Nat.le_refl _) _⟩
    ·have:=Hp.out
     rcases(by omega:k=50\/ 51<= k)with rfl|h
     ·simp at this;omega
     ·exact(by omega:50<= k-1)
    ·have:=Hp.out
     show m / 16<16 ^ (k-1-49);rw[show k-49=(k-1-49)+1 by(rcases(by omega:k=50\/ 51<= k)with rfl|h;(simp at this;omega);omega),Nat.pow_succ]at this
     exact Nat.div_lt_of_lt_mul (by rwa [Nat.mul_comm]at this)
    ·exact set_drop cs k (by omega) (by rw[Hsz.out];omega) _ _ Hc.out.2.1
    ·rw[Hc.out.2.2,jv 16 m (by omega),if_neg (by omega)];simp
   case measure=>simp[intOf];omega
  ·have hd:=Ue m (by omega)
   unfold D36 at hd;have hsl: ∀wx:World,(Instr.sliceAt 408 (.pointer (some ⟨w.heap.size,0,none⟩)) (some (.int .i64 ((k:Int)-1))) none none).run Tryz.prog wx= .ok (.slice (some ⟨w.heap.size,k-1,none⟩) (65- (k-1)) (65- (k-1))) wx:=by
    intro wx;have h:=run_sliceAt_array_l (P:=Tryz.prog) wx 408 ⟨w.heap.size,0,none⟩ (by kernel_rfl) .i64 ((k:Int)-1) (by omega) (by rw[HAL.out];omega)
    rw[h,HAL.out,show((k:Int)-1).toNat=k-1 by omega]
    have h1:((sizeOf (Tryz.prog.elem 408)).run Tryz.prog wx)= .ok 1 wx:=by kernel_rfl
    rw[h1];simp only[Result.andThen_ok,slicedAt,Nat.mul_one];rw[if_neg (by omega),gu,Nat.zero_add]
   have hb2:Blk (wr.setCell ⟨w.heap.size,k-1,none⟩ (bv (dch m))) w.heap.size 408 (cs.setIfInBounds (k-1) (bv (dch m))):=hb.ay _ _;have hdr:=set_drop cs k (by omega) (by rw[Hsz.out];omega) (bv (dch m)) _ Hc.out.2.1
   have hrd:Rd (wr.setCell ⟨w.heap.size,k-1,none⟩ (bv (dch m))) (w.heap.size+1) 1 (some ⟨w.heap.size,k-1,none⟩) (65- (k-1)) ((dch m::acc).map bv):=by
    have hlen:(cs.setIfInBounds (k-1) (bv (dch m))).toList.length=65:=by simp[Hsz.out]
    refine⟨by rw[List.map_cons,<- hdr,List.length_drop,hlen];omega,fun _=>⟨w.heap.size,k-1,rfl,by omega,fun j u hu=> ?_⟩⟩
    rw[hb2.cell];rw[List.map_cons,<- hdr,List.getElem?_drop,Array.getElem?_toList]at hu;exact hu
   clear hdr hb2;go_wp2_with (refine jY _ rfl (.tmp 100) 33 9 rfl 5 Tryz.underlying33 Tryz.underlying5 Tryz.underlying9 _ _ _ _ _ rfl hrd ?_)
   go_ret2
   refine⟨?_,setW L (Nat.le_refl _) _⟩;have e:eG 16 N=dch m::acc:=by rw[Hc.out.2.2,jv 16 m (by omega),if_pos (by omega),Nat.mod_eq_of_lt (by omega)];rfl
   rw[e];rfl
theorem Z5 (N:Nat) (w:World) (h:TZ w) (hN:N<= 9223372036854775807):
 Calls Tryz.prog 307 #[.int .i64 N,.int .i64 16] w fun e w'=>e= .returned (sv (eG 16 N))/\ Below w.heap.size w w':=by
 go_enter Tryz.func307,Tryz.ntmps307
 go_wp2_with (go_at_call 329;refine(Z4 N _ h hN).mono ?_;rintro e w' ⟨rfl,L⟩)
 go_ret
 exact⟨rfl,L⟩
theorem Ye (N:Nat) (w:World) (h:TZ w) (hN:N<= 9223372036854775807):
 Calls Tryz.prog 284 #[.int .i64 N,.int .i64 16] w fun e w'=>e= .returned (sv (eG 16 N))/\ Below w.heap.size w w':=by
 go_enter Tryz.func284,Tryz.ntmps284
 go_wp2_with (go_at_call 307;refine(Z5 N _ h hN).mono ?_;rintro e w' ⟨rfl,L⟩)
 go_ret
 exact⟨rfl,L⟩
theorem IV (n:Int) (w:World) (h1:n<= 9223372036854775807) (h:TZ w):
 Calls Tryz.prog 246 #[.int .i64 n] w fun e w'=>e= .returned (sv (eG 16 n.toNat))/\ Below w.heap.size w w':=by
 have e:max 0 n=(n.toNat:Int):=by omega
 have E:=Lib.hid e;clear e;go_enter Tryz.func246,Tryz.ntmps246
 go_wp2_with fail
 rw[E.out];refine(Ye n.toNat _ h (by omega)).mono ?_
 rintro e w' ⟨rfl,L⟩;go_wp2
 go_ret
 exact⟨rfl,L⟩
section
open Go.ChangeMaps (setBlock)
section
variable {α β:Type} [DecidableEq α] {P:Program} {kt et:TypeId} {kV:α-> Value} {Ok:α-> Prop} {vV:β-> Value} {w:World} {t:Nat-> Nat} {τ ρ b r:Nat} {l todo:List (α×β)}
variable {ops:Array Oper} {rest:List Oper} {o:Oper} {a:Act} {Q:Exit-> Act-> World-> Prop}
theorem Uf (hg:o.guard=none) (m x v:Operand) (T:TypeId) (hop:o.op=Op.mapUpdate T m x v) (M:MK P kt kV Ok) (ht:P.underlying T=some (.map kt et)) (h:MT w t τ b kV Ok vV l)
 (hm:a.eval m= .map (some b)) (k:α) (hk:Ok k) (hx:a.eval x=kV k) (u:β) (hv:a.eval v=vV u) (hK: ∀w',MT w' t τ b kV Ok vV (bK l k u)->(∀S:Nat-> Prop,S τ-> Stp S w t w' t)-> wpList P ops Q rest (a.put o.dst undef) w'):wpList P ops Q (o::rest) a w:=by
 refine wpList_plain hg fun K' hK'=> ?_
 obtain⟨w',hrun,r1,r2⟩:=h.put M ht k hk u;unfold Oper.wp;simp[execOp,hop,hm,hx,hv,hrun,Result.andThen];exact hK' _ _ (hK w' r1 r2)
theorem Au (hg:o.guard=none) (m:Operand) (T:TypeId) (hop:o.op=Op.range T m) (ht:P.underlying T=some (.map kt et)) (h:MT w t τ b kV Ok vV l) (hm:a.eval m= .map (some b)) (ρ:Nat)
 (hK: ∀w',MR w' (upT t w ρ) τ ρ b w.heap.size kV Ok vV l l->(∀S:Nat-> Prop,Stp S w t w' (upT t w ρ))-> wpList P ops Q rest (a.put o.dst (.pointer (some ⟨w.heap.size,0,none⟩))) w'):wpList P ops Q (o::rest) a w:=by
 refine wpList_plain hg fun K' hK'=> ?_
 obtain⟨w',hrun,r1,r2⟩:=h.range ht ρ;unfold Oper.wp;simp[execOp,hop,hm,hrun,Result.andThen];exact hK' _ _ (hK w' r1 r2)
theorem F8 (hg:o.guard=none) (it:Operand) (hop:o.op=Op.next it false) (h:MR w t τ ρ b r kV Ok vV l todo) (hit:a.eval it= .pointer (some ⟨r,0,none⟩))
 (hDone:todo= []-> wpList P ops Q rest (a.put o.dst (.tuple #[.bool false])) w)
 (hMore: ∀p todo' w',p∈l-> todo.Perm (p::todo')-> MR w' t τ ρ b r kV Ok vV l todo'->(∀S:Nat-> Prop,S ρ-> Stp S w t w' t)->(Instr.entry (.pointer (some ⟨r,0,none⟩))).run P w'= .ok (.tuple #[kV p.1,vV p.2]) w'->
   wpList P ops Q rest (a.put o.dst (.tuple #[.bool true,kV p.1,vV p.2])) w'):wpList P ops Q (o::rest) a w:=by
 refine wpList_plain hg fun K' hK'=> ?_
 unfold Oper.wp;rcases h.next (P:=P) o.type with⟨h0,hrun⟩| ⟨p,todo',w',h1,h2,hrun,h3,h4,h5⟩
 ·simp[execOp,hop,hit,hrun,Result.andThen]
  exact hK' _ _ (hDone h0)
 ·simp[execOp,hop,hit,hrun,Result.andThen]
  exact hK' _ _ (hMore p todo' w' h1 h2 h3 h4 h5)
end
def Az (w:World) (b r:Nat):Nat:=match w.heap[b]?,w.heap[r]? with|some (.map es _),some (.mapIter _ _ seen _)=>(leftOf es seen).size|_,_=>0
theorem MR.come {α β:Type} {w:World} {t:Nat-> Nat} {τ ρ b r:Nat} {kV:α-> Value} {Ok:α-> Prop} {vV:β-> Value} {l todo:List (α×β)} (h:MR w t τ ρ b r kV Ok vV l todo):Az w b r=todo.length:=by
 obtain⟨-,-,es,clock,since,seen,c0,hb,hr,-,-,-,hp,-⟩:=h;have:=hp.length_eq;simp at this;simp[Az,hb,hr,this]
theorem MR.mt {α β:Type} {w:World} {t:Nat-> Nat} {τ ρ b r:Nat} {kV:α-> Value} {Ok:α-> Prop} {vV:β-> Value} {l todo:List (α×β)} (h:MR w t τ ρ b r kV Ok vV l todo):MT w t τ b kV Ok vV l:=h.1
theorem MR.keep {α β:Type} [DecidableEq α] {w w':World} {t t':Nat-> Nat} {τ ρ b r:Nat} {kV:α-> Value} {Ok:α-> Prop} {vV:β-> Value} {l todo:List (α×β)} {S:Nat-> Prop} (h:MR w t τ ρ b r kV Ok vV l todo) (s:Stp S w t w' t') (h1: ¬S τ) (h2: ¬S ρ):MR w' t' τ ρ b r kV Ok vV l todo:=by
 obtain⟨hM,hr0,es,clock,since,seen,c0,hb,hr,hold,hsc,hsk,hperm,hsub⟩:=h;have hlb:=(Array.getElem?_eq_some_iff.1 hb).1;have hlr:=(Array.getElem?_eq_some_iff.1 hr).1;exact⟨hM.keep s h1,(s.old r hlr).trans hr0,es,clock,since,seen,c0,(s.block hlb (by rw[hM.1];exact h1)).trans hb,(s.block hlr (by rw[hr0];exact h2)).trans hr,hold,hsc,hsk,hperm,hsub⟩
end
def BU (w:World) (B b:Nat) (l:Bs):Prop:=Lib.IsBuilder 186 5 B b (l.map bv) w
theorem BU.new (w:World) (B:Nat) (hB:B<= w.heap.size):BU (w.alloc (.cells #[.pointer none,.slice none 0 0] 186)) B w.heap.size []:=by
 refine .inl ⟨hB,.slice none 0 0,heap_alloc_new w _,⟨by simp,.inl ⟨rfl,rfl⟩⟩,by simp[Value.ownBlock]⟩
theorem BU.alloc {w:World} {B b:Nat} {l:Bs} (h:BU w B b l) (o:Obj):BU (w.alloc o) B b l:=by
 have key: ∀p,Lib.BuilderAt 186 5 B b p (l.map bv) w-> Lib.BuilderAt 186 5 B b p (l.map bv) (w.alloc o):=by
  rintro p ⟨hB,v,hb,ho,hn⟩;exact⟨hB,v,by rw[Lib.alloc_old w o b (Array.getElem?_eq_some_iff.1 hb).1];exact hb,ho.alloc _,hn⟩
 exact h.imp (key _) (key _)
theorem BU.drew {w:World} {B b:Nat} {l:Bs} (h:BU w B b l):BU w.drew B b l:=h
end Go.Proofs.YtdmondfpepbniaaGreatDoor
