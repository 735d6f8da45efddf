/- Part 9 of the proof: Lst. -/
import Derived.Test.YtdmondfpepbniaaGreatDoorQ05
namespace Go.Proofs.YtdmondfpepbniaaGreatDoor
open Go.RowKit
set_option maxRecDepth 100000
set_option maxHeartbeats 4000000
set_option linter.all false
theorem D8 (b:UInt8) (r:Bs):kW (b::r)=if zH b.toNat then kW r+1 else 0:=by
 unfold kW;rw[List.takeWhile_cons];split<;>simp
theorem Ym (s:ByteArray) (k:Nat) (b:UInt8) (hb:s.data.toList.drop k=b::s.data.toList.drop (k+1)):s.extract k (k+1)=⟨#[b]⟩:=by
 apply fQ;rw[pX,hb,show k+1-k=1 by omega]
 rfl
theorem I8 {c d:UInt8} (h:c≠d) {n:Int} (hn:(d.toNat:Int)=n):((c.toNat:Int)==n)=false:=by
 rw[Bool.eq_false_iff];intro h2;rw[beq_iff_eq]at h2;exact h (Ic (by omega))
theorem Uu (b:UInt8) (w:World):
 Calls Tryz.prog 176 #[.string ⟨#[b]⟩] w fun e w'=>e= .returned (.bool (zH b.toNat))/\ w=w':=by
 refine(gG ⟨#[b]⟩ w (by show 1<= _;decide)).mono ?_
 rintro e w' ⟨rfl,rfl⟩;exact⟨fO (by simp[allT]),rfl⟩
theorem Gn (b:UInt8) (w:World):
 Calls Tryz.prog 171 #[.string ⟨#[b]⟩] w fun e w'=>e= .returned (.bool (iC b.toNat))/\ w=w':=by
 refine(lM ⟨#[b]⟩ w (by show 1<= _;decide)).mono ?_
 rintro e w' ⟨rfl,rfl⟩;exact⟨fO (by simp[wZ]),rfl⟩
theorem PZ (s:ByteArray) (w:World) (hs:s.size<= 1000000):
 Calls Tryz.prog 391 #[.string s] w fun e w'=>e= .returned (sv (s.data.toList.take (kW s.data.toList)))/\ w=w':=by
 go_enter Tryz.func391,Tryz.ntmps391
 go_wp2
 go_loop [3] (fun i=> ∃k:Nat,k<= s.size/\ i= .int .i64 k/\ Hid (kW s.data.toList=k+kW (s.data.toList.drop k))) (fun i=>s.size- (intOf i).toNat)
 case atStart=>exact⟨0,Nat.zero_le _,rfl,Lib.hid (by simp)⟩
 case round=>
  obtain⟨k,hk,rfl,H⟩:=hrel;by_cases hlt:k<s.size
  ·obtain⟨b,hb,hbt⟩:=dP s k hlt
   have hx:=Ym s k b hb;cases ht:zH b.toNat
   ·have HR:=Lib.hid (show kW s.data.toList=k by rw[H.out,hb,D8,ht];rfl)
    clear hb hbt H;go_wp2_with fail
    refine(Uu b w).mono ?_;rw[ht];rintro e w' ⟨rfl,rfl⟩;go_wp2
    go_ret
    exact⟨by rw[HR.out];exact SL (zG _ _),rfl⟩
   ·have HR:=Lib.hid (show kW s.data.toList=(k+1)+kW (s.data.toList.drop (k+1)) by rw[H.out,hb,D8,ht];simp;omega)
    clear hb hbt H;go_wp2_with fail
    refine(Uu b w).mono ?_;rw[ht];rintro e w' ⟨rfl,rfl⟩;go_wp2_with fail
    go_round
    case rel=>exact⟨k+1,by omega,by go_num,HR⟩
    case measure=>simp[intOf];omega
  ·have HR:=Lib.hid (show kW s.data.toList=k by rw[H.out,drop_end s k (by omega)];rfl)
   clear H;go_wp2
   go_ret
   exact⟨by rw[HR.out];exact SL (zG _ _),rfl⟩
def oM (l:Bs) (k:Nat):Nat:=((ni (l.drop k)).map (· +k)).getD 0
theorem Yn (b:UInt8) (r:Bs) (h:b=34):kU (b::r)=oM (b::r) 1:=by rw[kU,if_pos h];rfl
theorem Z9 (r:Bs):ni (34::r)=some 1:=by rw[ni.eq_def];rfl
theorem aac (c:UInt8) (r:Bs) (h1:c≠34) (h2:c≠92):ni (c::r)=if iC c.toNat then(ni r).map (· +1)else none:=by
 rw[ni.eq_def];simp only;rw[if_neg h1,if_neg h2]
theorem aad:ni [92]=none:=by rw[ni.eq_def];rfl
theorem aae (d:UInt8) (r:Bs):ni (92::d::r)=if iC d.toNat then(ni r).map (· +2)else none:=by
 rw[ni.eq_def];rfl
theorem Uw (l:Bs) (k:Nat) (h:l.drop k= []):oM l k=0:=by rw[oM,h];rfl
theorem aaf (l r:Bs) (k:Nat) (h:l.drop k=34::r):oM l k=k+1:=by rw[oM,h,Z9];simp;omega
theorem Ux (l:Bs) (k:Nat) (c:UInt8) (h:l.drop k=c::l.drop (k+1)) (h1:c≠34) (h2:c≠92):oM l k=if iC c.toNat then oM l (k+1)else 0:=by
 rw[oM,h,aac _ _ h1 h2];split
 ·rw[oM];cases ni (l.drop (k+1))<;>simp;omega
 ·rfl
theorem aag (l:Bs) (k:Nat) (h:l.drop k= [92]):oM l k=0:=by rw[oM,h,aad];rfl
theorem Uy (l:Bs) (k:Nat) (d:UInt8) (h:l.drop k=92::l.drop (k+1)) (h1:l.drop (k+1)=d::l.drop (k+2)):oM l k=if iC d.toNat then oM l (k+2)else 0:=by
 rw[oM,h,h1,aae];split
 ·rw[oM];cases ni (l.drop (k+2))<;>simp;omega
 ·rfl
def NZ (w:World) (n:Nat) (e:Ending) (w':World):Prop:=(∃x:ByteArray,e= .returned (.tuple #[.string x,.int .i64 (n:Int)]))/\ Below w.heap.size w w'
theorem uj (s:ByteArray) (w:World) (h:s.data.toList= []\/ ∃b r,s.data.toList=b::r/\ b≠34):
 Calls Tryz.prog 392 #[.string s] w (NZ w (kU s.data.toList)):=by
 rcases h with h| ⟨b,r,h,hb⟩
 ·obtain rfl:s=⟨#[]⟩:=fQ h
  go_enter Tryz.func392,Tryz.ntmps392
  go_wp2
  go_ret2
  exact⟨⟨_,rfl⟩,Below.refl _ _⟩
 ·have hp:0<s.size:=by rw[<- au,h];simp
  have HR:=Lib.hid (show kU s.data.toList=0 by rw[h,kU,if_neg hb])
  obtain⟨c,hc,hbt⟩:=dP s 0 hp;rw[List.drop_zero,h]at hc;obtain rfl:b=c:=(List.cons.inj hc).1;have hne:=bI hp;have hbs:=PlainAid.get_bt s;have h34:=I8 hb (n:=34) rfl;clear h hc;go_enter Tryz.func392,Tryz.ntmps392
  go_wp2
  go_ret2
  exact⟨⟨_,by rw[HR.out];rfl⟩,Below.refl _ _⟩
theorem Lm (s:ByteArray) (w:World) (hs:s.size<= 1000000):
 Calls Tryz.prog 392 #[.string s] w (NZ w (kU s.data.toList)):=by
 rcases Nat.eq_zero_or_pos s.size with h0|hp
 ·exact uj s w (.inl (List.eq_nil_of_length_eq_zero (by rw[au];exact h0)))
 obtain⟨b0,hb0,hbt0⟩:=dP s 0 hp;rw[List.drop_zero]at hb0;by_cases h34:b0=34;rotate_left
 ·exact uj s w (.inr ⟨b0,_,hb0,h34⟩)
 have HQ:=Lib.hid (show kU s.data.toList=oM s.data.toList 1 by rw[hb0];exact Yn _ _ h34)
 subst h34;clear hb0;have hne:=bI hp;have hbs:=PlainAid.get_bt s;have hcv:=kL (P:=Tryz.prog) 33 5 9 Tryz.underlying33 Tryz.underlying5 Tryz.underlying9;go_enter Tryz.func392,Tryz.ntmps392
 go_wp2
 clear hbt0 hne;go_loopw [4,5] (fun v i wr=> ∃(k:Nat) (l:Bs),1<= k/\ k<= s.size/\ i= .int .i64 k/\ l.length<= k/\ OB wr w.heap.size v l/\ Below w.heap.size w wr/\ Hid (kU s.data.toList=oM s.data.toList k)) (fun _ i _=>s.size- (intOf i).toNat)
 case atStart=>exact⟨1,[],Nat.le_refl _,hp,rfl,by simp,OB.nil _ _,Below.refl _ _,HQ⟩
 case round=>
  obtain⟨k,l,hk1,hk,rfl,hl,ho,L,H⟩:=hrel;have hS:=L.size;by_cases hlt:k<s.size
  ·obtain⟨b,hb,hbt⟩:=dP s k hlt
   by_cases h1:b=34
   ·subst h1
    have HR:=Lib.hid (H.out.trans (aaf _ _ k hb));clear hb H;go_wp2_with (refine Iu rfl _ rfl _ _ _ rfl ho ?_)
    go_ret2
    exact⟨⟨_,by rw[HR.out];rfl⟩,L⟩
   have c1:=I8 h1 (n:=34) rfl;by_cases h2:b=92
   ·subst h2
    by_cases hlt2:k+1<s.size
    ·obtain⟨d,hd,hdt⟩:=dP s (k+1) hlt2
     cases hv:iC d.toNat
     ·have HR:=Lib.hid (show kU s.data.toList=0 by rw[H.out,Uy _ k d hb hd,hv];rfl)
      clear hb hd H;go_wp2_with fail
      refine(Gn d _).mono ?_;rw[hv];rintro e w1 ⟨rfl,rfl⟩;go_wp2
      go_ret2
      exact⟨⟨_,by rw[HR.out];rfl⟩,aj L _⟩
     ·have HR:=Lib.hid (show kU s.data.toList=oM s.data.toList (k+2) by rw[H.out,Uy _ k d hb hd,hv];rfl)
      clear hb hd H;go_wp2_with fail
      refine(Gn d _).mono ?_;rw[hv];rintro e w1 ⟨rfl,rfl⟩;have ho1:=ho.alloc (.cells #[.int .u8 (d.toNat:Int)] 5);have L1:=aj L (.cells #[.int .u8 (d.toNat:Int)] 5);obtain⟨V,hV⟩: ∃V,V=wr.alloc (.cells #[.int .u8 (d.toNat:Int)] 5):=⟨_,rfl⟩;rw[<- hV]at ho1 L1⊢;clear hV;go_wp2_with (at_builtin;refine iw rfl _ _ rfl w.heap.size _ _ rfl ho1 _ rfl _ rfl d rfl (by omega) L1.size ?_;intro v' w2 ho2 hx)
      go_roundw
      case rel=>exact⟨k+2,_,by omega,by omega,by go_num,by simp;omega,ho2,L1.trans (hx.below ho1 (Nat.le_refl _) L1.size),HR⟩
      case measure=>simp[intOf];omega
    ·have HR:=Lib.hid (show kU s.data.toList=0 by rw[H.out,aag _ k (by rw[hb,drop_end s (k+1) (by omega)])])
     have hke:k+1=s.size:=by omega
     clear hb H;go_wp2
     go_ret2
     exact⟨⟨_,by rw[HR.out];rfl⟩,L⟩
   ·have c2:=I8 h2 (n:=92) rfl
    cases hv:iC b.toNat
    ·have HR:=Lib.hid (show kU s.data.toList=0 by rw[H.out,Ux _ k b hb h1 h2,hv];rfl)
     clear hb H;go_wp2_with fail
     refine(Gn b _).mono ?_;rw[hv];rintro e w1 ⟨rfl,rfl⟩;go_wp2
     go_ret2
     exact⟨⟨_,by rw[HR.out];rfl⟩,aj L _⟩
    ·have HR:=Lib.hid (show kU s.data.toList=oM s.data.toList (k+1) by rw[H.out,Ux _ k b hb h1 h2,hv];rfl)
     clear hb H;go_wp2_with fail
     refine(Gn b _).mono ?_;rw[hv];rintro e w1 ⟨rfl,rfl⟩;have ho1:=ho.alloc (.cells #[.int .u8 (b.toNat:Int)] 5);have L1:=aj L (.cells #[.int .u8 (b.toNat:Int)] 5);obtain⟨V,hV⟩: ∃V,V=wr.alloc (.cells #[.int .u8 (b.toNat:Int)] 5):=⟨_,rfl⟩;rw[<- hV]at ho1 L1⊢;clear hV;go_wp2_with (at_builtin;refine iw rfl _ _ rfl w.heap.size _ _ rfl ho1 _ rfl _ rfl b rfl (by omega) L1.size ?_;intro v' w2 ho2 hx)
     go_roundw
     case rel=>exact⟨k+1,_,by omega,by omega,by go_num,by simp;omega,ho2,L1.trans (hx.below ho1 (Nat.le_refl _) L1.size),HR⟩
     case measure=>simp[intOf];omega
  ·have HR:=Lib.hid (show kU s.data.toList=0 by rw[H.out,Uw _ k (drop_end s k (by omega))])
   clear H;go_wp2
   go_ret2
   exact⟨⟨_,by rw[HR.out];rfl⟩,L⟩
theorem qJ (l:Bs):Lib.trimLeftS l [9,32]=trimF l:=by
 have e:(fun b:UInt8=>([9,32]:Bs).contains b)=isB:=by
  funext b
  cases h1:(b==9)<;>cases h2:(b==32)<;>simp[isB,List.contains,List.elem,h1,h2]
 unfold Lib.trimLeftS trimF;rw[e]
theorem vU (s:ByteArray) (w:World):
 Calls Tryz.prog 206 #[.string s,.string ⟨#[9,32]⟩] w fun e w'=> ∃X:ByteArray,e= .returned (.string X)/\ X.data.toList=trimF s.data.toList/\ Below w.heap.size w w':=by
 refine(Any.strings_TrimLeft_laid Tryz.lays161 (by kernel_rfl) s ⟨#[9,32]⟩ _ (by decide) (ascii_of_all (by decide))).mono ?_
 rintro e w' ⟨rfl,hb⟩;exact⟨_,rfl,by rw[<- qJ],hb⟩
theorem AU (s:ByteArray) (w:World) (hs:s.size<= 1000000):
 Calls Tryz.prog 391 #[.string s] w fun e w'=> ∃X:ByteArray,e= .returned (.string X)/\ X.data.toList=s.data.toList.take (kW s.data.toList)/\ X.size=kW s.data.toList/\ w=w':=by
 refine(PZ s w hs).mono ?_;rintro e w' ⟨rfl,rfl⟩;refine⟨_,rfl,rfl,?_,rfl⟩;rw[<- au,List.length_take,Nat.min_eq_left (FV _)]
def Oa (w:World) (s:Bs) (e:Ending) (w':World):Prop:=
 ∃(p1 p2 R:ByteArray) (ok:Bool),e= .returned (.tuple #[.agg #[.string p1,.string p2],.string R,.bool ok])/\ pU s=(if ok then some R.data.toList else none)/\ Below w.heap.size w w'
theorem aai (s:Bs) (h:s= []\/ ∃b r,s=b::r/\ b≠59):pU s=none:=by
 rcases h with rfl| ⟨b,r,rfl,hb⟩
 ·rfl
 ·rw[pU,if_neg hb]
theorem I9 (s r x:Bs) (h:s=59::r) (hx:x=trimF r) (hn:kW x=0):pU s=none:=by
 subst h hx;rw[pU,if_pos rfl,if_pos hn]
theorem Uz (s r x y:Bs) (h:s=59::r) (hx:x=trimF r) (hn:kW x≠0) (hy:y=x.drop (kW x)):pU s=xM y:=by
 subst h hx hy;rw[pU,if_pos rfl,if_neg hn]
theorem vW (s:ByteArray) (w:World) (h:s.data.toList= []\/ ∃b r,s.data.toList=b::r/\ b≠59):
 Calls Tryz.prog 390 #[.string s] w (Oa w s.data.toList):=by
 have HR:=Lib.hid (aai _ h);have B1:Blk (w.alloc (.cells #[.string ⟨#[]⟩,.string ⟨#[]⟩] 444)) w.heap.size 444 #[.string ⟨#[]⟩,.string ⟨#[]⟩]:=Blk.new' _ _ rfl _ _;obtain⟨j0,j1,i0,i1⟩:=B1.c2;rcases h with h| ⟨b,r,h,hb⟩
 ·obtain rfl:s=⟨#[]⟩:=fQ h
  go_enter Tryz.func390,Tryz.ntmps390
  go_wp2
  refine bodyPost_ret (v:=.tuple #[.agg #[.string ⟨#[]⟩,.string ⟨#[]⟩],.string ⟨#[]⟩,.bool false]) (by simp[results,Tryz.results390,go_sem]) rfl ⟨_,_,_,false,rfl,HR.out,?_⟩
  repeat refine setW ?_ (by simp) _
  exact aj (Below.refl _ _) _
 ·have hp:0<s.size:=by rw[<- au,h];simp
  obtain⟨c,hc,hbt⟩:=dP s 0 hp;rw[List.drop_zero,h]at hc;obtain rfl:b=c:=(List.cons.inj hc).1;have hne:=bI hp;have hbs:=PlainAid.get_bt s;have h34:=I8 hb (n:=59) rfl;clear h hc;go_enter Tryz.func390,Tryz.ntmps390
  go_wp2
  refine bodyPost_ret (v:=.tuple #[.agg #[.string ⟨#[]⟩,.string ⟨#[]⟩],.string s,.bool false]) (by simp[results,Tryz.results390,go_sem]) rfl ⟨_,_,_,false,rfl,HR.out,?_⟩
  repeat refine setW ?_ (by simp) _
  exact aj (Below.refl _ _) _
theorem Lp {B:Nat} {a w:World} (h:Below B a w):Below B a w.drew:=below_drewN' h 1
theorem UA (s:Bs) (n:Nat) (h:kU s=n) (hn:n≠0):xM (61::s)=some (s.drop n):=by
 subst h;rw[xM,if_pos rfl,if_neg hn]
theorem Yo (s:Bs) (n:Nat) (h:kU s=0) (h2:kW s=n):xM (61::s)=if n=0 then none else some (s.drop n):=by
 subst h2;rw[xM,if_pos rfl,if_pos h]
theorem P5 (s:ByteArray) (w:World) (hs:s.size<= 1000000):
 Calls Tryz.prog 390 #[.string s] w (Oa w s.data.toList):=by
 rcases Nat.eq_zero_or_pos s.size with h0|hp
 ·exact vW s w (.inl (List.eq_nil_of_length_eq_zero (by rw[au];exact h0)))
 obtain⟨b0,hb0,hbt0⟩:=dP s 0 hp;rw[List.drop_zero]at hb0;by_cases h59:b0=59;rotate_left
 ·exact vW s w (.inr ⟨b0,_,hb0,h59⟩)
 subst h59;have hne:=bI hp;have hbs:=PlainAid.get_bt s;have H0:=Lib.hid hb0;have E1:=Lib.hid (iK s 1);clear hb0;have B1:Blk (w.alloc (.cells #[.string ⟨#[]⟩,.string ⟨#[]⟩] 444)) w.heap.size 444 #[.string ⟨#[]⟩,.string ⟨#[]⟩]:=Blk.new' _ _ rfl _ _;have LW:Below w.heap.size w (w.alloc (.cells #[.string ⟨#[]⟩,.string ⟨#[]⟩] 444)):=aj (Below.refl _ _) _;go_enter Tryz.func390,Tryz.ntmps390
 go_wp2_with fail
 obtain⟨V,hV⟩: ∃V,V=w.alloc (.cells #[.string ⟨#[]⟩,.string ⟨#[]⟩] 444):=⟨_,rfl⟩;rw[<- hV]at B1 LW⊢;clear hV hbt0 hne hbs;refine(vU _ V).mono ?_;rintro e w1 ⟨X,rfl,hX,L1⟩;have HX:=Lib.hid (hX.trans (congrArg trimF E1.out));have hXs:X.size<= 1000000:=by
  rw[<- au,HX.out];refine Nat.le_trans (ny _) ?_;rw[List.length_drop,au];omega
 have B2:=B1.ah L1;have L2:=stepW LW L1;clear hX B1 LW L1 E1;go_wp2_with fail
 refine(AU X w1 hXs).mono ?_;rintro e w2 ⟨N,rfl,hN,hNs,rfl⟩;obtain⟨j0,j1,i0,i1⟩:=B2.c2;have hlt:=B2.lt;by_cases hn0:kW X.data.toList=0
 ·have HR:=Lib.hid (I9 _ _ _ H0.out HX.out hn0)
  rw[hn0]at hNs hN;have hX0:0<= X.size:=Nat.zero_le _;obtain rfl:N=⟨#[]⟩:=fQ hN;have hR:X.extract 0 X.size=X:=fQ (by rw[iK];rfl)
  clear hN hNs hn0;go_wp2
  refine bodyPost_ret (v:=.tuple #[.agg #[.string ⟨#[]⟩,.string ⟨#[]⟩],.string X,.bool false]) (by simp[results,Tryz.results390,go_sem,j0,j1]) rfl ⟨_,_,_,false,rfl,HR.out,?_⟩
  repeat refine setW ?_ (by simp) _
  exact L2
 have hNX:N.size<= X.size:=by rw[hNs,<- au X];exact FV _
 obtain⟨R,hR⟩: ∃R,R=X.extract N.size X.size:=⟨_,rfl⟩;have HP:=Lib.hid (Uz _ _ _ R.data.toList H0.out HX.out hn0 (by rw[hR,iK,hNs]))
 have hRs:R.size<= 1000000:=by rw[hR,ext_size _ _ _ hNX (Nat.le_refl _)];omega
 have hNp:0<N.size:=by omega
 have hNe:=bI hNp;have hRe:=hR.symm;clear hR hN hNs hn0 HX H0;rcases Nat.eq_zero_or_pos R.size with h0|hRp
 ·have HR:=Lib.hid (HP.out.trans (show xM R.data.toList=some [] by rw[List.eq_nil_of_length_eq_zero (by rw[au];exact h0:R.data.toList.length=0)];rfl))
  obtain rfl:=iE h0;go_wp2
  refine bodyPost_ret (v:=.tuple #[.agg #[.string N,.string ⟨#[]⟩],.string ⟨#[]⟩,.bool true]) (by simp[results,Tryz.results390,go_sem,j0,j1]) rfl ⟨_,_,_,true,rfl,HR.out,?_⟩
  repeat refine setW ?_ (by simp) _
  exact L2
 have hRne:=bI hRp;obtain⟨b,hb,hbt⟩:=dP R 0 hRp;rw[List.drop_zero]at hb;have hbs:=PlainAid.get_bt R;by_cases h61:b=61;rotate_left
 ·have HR:=Lib.hid (HP.out.trans (show xM R.data.toList=some R.data.toList by rw[hb,xM,if_neg h61]))
  have c1:=I8 h61 (n:=61) rfl;clear hb h61;go_wp2
  refine bodyPost_ret (v:=.tuple #[.agg #[.string N,.string ⟨#[]⟩],.string R,.bool true]) (by simp[results,Tryz.results390,go_sem,j0,j1]) rfl ⟨_,_,_,true,rfl,HR.out,?_⟩
  repeat refine setW ?_ (by simp) _
  exact L2
 subst h61;obtain⟨T,hT⟩: ∃T,T=R.extract 1 R.size:=⟨_,rfl⟩;have hTl:R.data.toList=61::T.data.toList:=by rw[hT,iK];exact hb
 have hTs:T.size<= 1000000:=by rw[hT,ext_size _ _ _ hRp (Nat.le_refl _)];omega
 have HQ:=Lib.hid (HP.out.trans (congrArg xM hTl));have hTe:=hT.symm;clear hb hT hTl HP;go_wp2_with fail
 have B3:=B2.ay 0 (.string N);have L3:=setW L2 (p:=⟨w.heap.size,0,none⟩) (Nat.le_refl _) (.string N);obtain⟨V,hV⟩: ∃V,V=w1.setCell ⟨w.heap.size,0,none⟩ (.string N):=⟨_,rfl⟩;rw[<- hV]at B3 L3⊢;clear hV B2 L2 j0 j1 i0 i1 hbt hbs hRne hNe hlt;refine(Lm T V hTs).mono ?_;rintro e w3 ⟨⟨x,rfl⟩,L4⟩;have B4:=B3.ah L4;have L5:=stepW L3 L4;obtain⟨j0,j1,i0,i1⟩:=B4.c2;have hq:=XR T.data.toList;rw[au]at hq;clear B3 L3 L4;by_cases hq0:kU T.data.toList=0;rotate_left
 ·obtain⟨n,hn⟩: ∃n,n=kU T.data.toList:=⟨_,rfl⟩
  have HR:=Lib.hid (HQ.out.trans (UA _ n hn.symm (by omega)))
  rw[<- hn]at hq hq0⊢;have hn1:1<= n:=by omega
  clear hn hq0;go_wp2
  go_region
  all_goals
   go_wp2
   refine bodyPost_ret (v:=.tuple #[.agg #[.string N,.string x],.string (T.extract n T.size),.bool true]) (by simp[results,Tryz.results390,go_sem,j0,j1]) rfl ⟨_,_,_,true,rfl,by rw[iK];exact HR.out,?_⟩
   repeat first|refine setW ?_ (by simp) _|refine Lp ?_
   exact L5
 rw[hq0];go_wp2_with fail
 refine(AU T w3 hTs).mono ?_;rintro e w4 ⟨M,rfl,hM,hMs,rfl⟩;have HR:=Lib.hid (HQ.out.trans (Yo _ M.size hq0 hMs.symm));have hMT:M.size<= T.size:=by rw[hMs,<- au T];exact FV _
 clear hM hMs hq hq0 HQ;rcases Nat.eq_zero_or_pos M.size with h0|hMp
 ·have HR2:=Lib.hid (HR.out.trans (if_pos h0))
  obtain rfl:=iE h0;have hT0:0<= T.size:=Nat.zero_le _;clear HR h0;go_wp2
  go_region
  all_goals
   go_wp2
   refine bodyPost_ret (v:=.tuple #[.agg #[.string N,.string ⟨#[]⟩],.string (T.extract 0 T.size),.bool false]) (by simp[results,Tryz.results390,go_sem,j0,j1]) rfl ⟨_,_,_,false,rfl,HR2.out,?_⟩
   repeat first|refine setW ?_ (by simp) _|refine Lp ?_
   exact L5
 ·have HR2:=Lib.hid (HR.out.trans (if_neg (by omega)))
  have hMe:=bI hMp;clear HR;go_wp2
  go_region
  all_goals
   go_wp2
   refine bodyPost_ret (v:=.tuple #[.agg #[.string N,.string M],.string (T.extract M.size T.size),.bool true]) (by simp[results,Tryz.results390,go_sem,j0,j1]) rfl ⟨_,_,_,true,rfl,by rw[iK];exact HR2.out,?_⟩
   repeat first|refine setW ?_ (by simp) _|refine Lp ?_
   exact L5
theorem UC:(Tryz.prog.info? 444).map (fun i=>(i.zero,i.size,i.bytes))=some (some (.agg #[.string ⟨#[]⟩,.string ⟨#[]⟩]),2,32):=by kernel_rfl
def OPr (w:World) (base:Nat) (v:Value) (n:Nat):Prop:= ∃xs,Own w base 444 2 v n xs
theorem OPr.nil (w:World) (base:Nat):OPr w base (.slice none 0 0) 0:=⟨[],Own.nil w base _ 2⟩
theorem OPr.ah {w w':World} {base:Nat} {v:Value} {n:Nat} (h:OPr w base v n) (hb:Below w.heap.size w w'):OPr w' base v n:=by
 obtain⟨xs,h⟩:=h;exact⟨xs,h.ah hb⟩
theorem OPr.alloc {w:World} {base:Nat} {v:Value} {n:Nat} (h:OPr w base v n) (o:Obj):OPr (w.alloc o) base v n:=by
 obtain⟨xs,h⟩:=h;exact⟨xs,h.alloc o⟩
theorem OPr.form {w:World} {base:Nat} {v:Value} {n:Nat} (h:OPr w base v n): ∃A c,v= .slice A n c:=by
 obtain⟨xs,h⟩:=h;obtain⟨A,c,e,_⟩:=h.rd;exact⟨A,c,e⟩
theorem Yp {ops:Array Oper} {rest:List Oper} {o:Oper} {a:Act} {Q:Exit-> Act-> World-> Prop} {w0:World} (hgd:o.guard=none) (s x:Operand)
 (ho:o.op= .call { callee:=.builtin .append,args:=#[s,x],argTypes:=#[438,438] })
 (base:Nat) (v:Value) (n:Nat) (hs:a.eval s=v) (hown:OPr w0 base v n) (g:Nat) (hg:g=w0.heap.size) (p q:ByteArray) (hx:a.eval x= .slice (some ⟨g,0,none⟩) 1 1)
 (hlen:n+1<= 1000000) (hbase:base<= w0.heap.size)
 (h: ∀v' w',OPr w' base v' (n+1)-> Below base w0 w'-> wpList Tryz.prog ops Q rest (a.put o.dst v') w'):wpList Tryz.prog ops Q (o::rest) a (w0.alloc (.cells #[.string p,.string q] 444)):=by
 obtain⟨i0,hi,hz0,hz1,hz2⟩:=info_parts UC;subst hg;obtain⟨xs,hown⟩:=hown;refine aJ _ hgd s x 438 438 ho base 444 i0 _ 2 32 Tryz.underlying438 (.inl Tryz.underlying438) hi hz0 hz1 hz2 rfl (by decide) v n _ hs (hown.alloc _) _ 1 [.string p,.string q] hx (Src.fB (Rd.new w0 _ rfl [.string p,.string q] _ 1 2 rfl) (by intro u hu;simp at hu;rcases hu with rfl|rfl<;>rfl)) (by unfold maxLen;omega) (by omega) (Nat.le_trans hbase (by simp)) ?_
 intro v' w' ho' hg' ha;exact h v' w' ⟨_,ho'⟩ (((Below.refl base w0).alloc hbase _).grown hg' (Nat.le_trans hbase (by simp)) fun k hk=>(hown.lt k hk).1)
def Yq (w:World) (b:Bool) (e:Ending) (w':World):Prop:=(∃v,e= .returned (.tuple #[v,.bool b]))/\ Below w.heap.size w w'
theorem uI (s:ByteArray) (w:World) (hs:s.size<= 1000000):
 Calls Tryz.prog 385 #[.string s] w (Yq w (yG s.data.toList)):=by
 go_enter Tryz.func385,Tryz.ntmps385
 go_wp2
 go_loopw [4,0] (fun v t wr=> ∃(T:ByteArray) (n:Nat),t= .string T/\ T.size<= s.size/\ n<= 16/\ OPr wr w.heap.size v n/\ Below w.heap.size w wr/\ Hid (yG s.data.toList=xO T.data.toList n)) (fun _ t _=>match t with| .string T=>T.size|_=>0)
 case atStart=>exact⟨s,0,rfl,Nat.le_refl _,by omega,OPr.nil _ _,Below.refl _ _,Lib.hid rfl⟩
 case round=>
  obtain⟨T,n,rfl,hT,hn,ho,L,H⟩:=hrel;have hS:=L.size;go_wp2_with fail
  refine(vU T wr).mono ?_;rintro e w1 ⟨X,rfl,hX,L1⟩;have hXT:X.size<= T.size:=by rw[<- au,<- au,hX];exact ny _
  have ho1:=ho.ah L1;have L2:=stepW L L1;rcases Nat.eq_zero_or_pos X.size with h0|hp
  ·have HR:=Lib.hid (H.out.trans (TK _ n (by rw[<- hX];exact List.eq_nil_of_length_eq_zero (by rw[au];exact h0))))
   obtain rfl:=iE h0;clear hX H;go_wp2
   go_ret2
   exact⟨⟨_,by rw[HR.out];rfl⟩,L2⟩
  have hne:=bI hp;have hnn:trimF T.data.toList≠[]:=by rw[<- hX];intro h;rw[<- au,h]at hp;simp at hp
  go_wp2_with fail
  refine(P5 X w1 (by omega)).mono ?_
  rintro e w2 ⟨p1,p2,R,ok,rfl,hps,L3⟩;rw[hX]at hps;have ho2:=ho1.ah L3;have L4:=stepW L2 L3;obtain⟨A,c,rfl⟩:=ho2.form;cases ok
  ·have HR:=Lib.hid (H.out.trans (Ae _ n hnn (hps.trans (if_neg (by decide)))))
   clear hps H hnn hX;go_wp2
   go_ret2
   refine⟨⟨_,by rw[HR.out];rfl⟩,?_⟩
   exact aj L4 _
  ·by_cases h16:n=16
   ·have HR:=Lib.hid (H.out.trans (TN _ n hnn h16))
    subst h16;clear hps H hnn hX;go_wp2
    go_ret2
    refine⟨⟨_,by rw[HR.out];rfl⟩,?_⟩
    exact aj L4 _
   ·have hps2:pU (trimF T.data.toList)=some R.data.toList:=hps.trans (if_pos rfl)
    have HR:=Lib.hid (H.out.trans (TM _ _ n hnn hps2 h16));have hlt:=FW _ _ hps2;rw[au,<- hX,au]at hlt;clear hps H hnn hX hps2;go_wp2_with (at_builtin;refine Yp rfl _ _ rfl w.heap.size (.slice A n c) n rfl (ho2.alloc _) _ (by simp) p1 p2 rfl (by omega) (aj L4 _).size ?_;intro v' w3 ho3 hx)
    go_roundw
    case rel=>exact⟨R,n+1,rfl,by omega,by omega,ho3,(aj L4 _).trans hx,HR⟩
    case measure=>simp;omega
end Go.Proofs.YtdmondfpepbniaaGreatDoor
