/- Part 12 of the proof: Tok. -/
import Derived.Defers
import Derived.Recover
import Derived.Lib.SlicesS
import Derived.Test.YtdmondfpepbniaaGreatDoorQ05
namespace Go.Proofs.YtdmondfpepbniaaGreatDoor
open Go.RowKit
set_option maxRecDepth 100000
set_option maxHeartbeats 4000000
set_option linter.all false
def UN (l:List Bs):Prop:= ∀v∈l,v.length<= 1000000
def Gs (w:World) (o:Option (List Bs)) (e:Ending) (w':World):Prop:=
 (∃A c,e= .returned (.tuple #[.slice A (o.getD []).length c,.bool o.isSome])/\ (o.getD []).length<= c/\ c<= maxLen/\ Rd w' w'.heap.size 1 A (o.getD []).length ((o.getD []).map tv))/\ Below w.heap.size w w'
theorem Yw {w wr:World} {base:Nat} {v:Value} {l:List Bs} {o:Option (List Bs)} (ho:OS wr base v l) (e:o=some l) (L:Below w.heap.size w wr):Gs w o (.returned (.tuple #[v,.bool true])) wr:=by
 subst e;obtain⟨A,c,hv,h1,h2,h3⟩:=ho.form;exact⟨⟨A,c,by rw[hv];rfl,h1,h2,h3⟩,L⟩
theorem UO {w wr:World} {o:Option (List Bs)} (e:o=none) (L:Below w.heap.size w wr):Gs w o (.returned (.tuple #[.slice none 0 0,.bool false])) wr:=by
 subst e;exact⟨⟨none,0,rfl,Nat.zero_le _,Nat.zero_le _,Rd.nil _ _ _ _⟩,L⟩
theorem Qa (l:Bs):(Ie l).length<= l.length:=by
 unfold Ie;rw[List.length_reverse];refine Nat.le_trans (List.Sublist.length_le (List.dropWhile_sublist _)) ?_;rw[List.length_reverse];exact Nat.le_refl _
theorem Ec (l:Bs):(bf l).length<= l.length:=Nat.le_trans (Qa _) (List.Sublist.length_le (List.dropWhile_sublist _))
theorem Qb (c:UInt8) (l:Bs):(aS c l).length<= l.length+1:=by
 rw[kS];have:=List.count_le_length (a:=c) (l:=l);omega
theorem qN (c:UInt8): ∀(l:Bs) (p:Bs),p∈aS c l-> p.length<= l.length
 | [],p,h=>by simp[aS]at h;simp[h]
 |b::l,p,h=>by
  rw[aS]at h;split at h
  ·rcases List.mem_cons.1 h with rfl|h
   ·simp
   ·have:=qN c l p h;simp;omega
  ·obtain⟨q,ps,h1⟩:=List.exists_cons_of_ne_nil (qZ c l)
   rw[h1]at h;rcases List.mem_cons.1 h with rfl|h
   ·have:=qN c l q (by rw[h1];simp)
    simp;omega
   ·have:=qN c l p (by rw[h1];simp[h])
    simp;omega
theorem Gt {l:List Bs} {k:Nat} (h:k<l.length): ∃f,l[k]? = some f/\ l.drop k=f::l.drop (k+1):=
 ⟨l[k],List.getElem?_eq_getElem h,List.drop_eq_getElem_cons h⟩
theorem Yx (vs:List Bs) (k:Nat) (st:Option (List Bs)) (v:Bs) (hd:vs.drop k=v::vs.drop (k+1)) (H:mY vs=yF st (vs.drop k)):mY vs=yF ((aS 44 v).foldl tokF st) (vs.drop (k+1)):=by
 rw[H,hd,KQ]
theorem LC (A:Option Addr) (c B:Nat) (vs:List Bs) (w:World) (hA:Rd w B 1 A vs.length (vs.map tv)) (hB:B<= w.heap.size) (hn:vs.length<= 1000) (hsz:UN vs) (hm:ML w):
 Calls Tryz.prog 383 #[.slice A vs.length c] w (Gs w (mY vs)):=by
 go_enter Tryz.func383,Tryz.ntmps383
 go_wp2
 go_loopw [4,11] (fun v i wr=> ∃(k:Nat) (l:List Bs),k<= vs.length/\ i= .int .i64 k/\ OS wr w.heap.size v l/\ l.length<= k*1000001/\ Hid (mY vs=yF (some l) (vs.drop k))/\ Below w.heap.size w wr) (fun _ i _=>vs.length- (intOf i).toNat)
 case atStart=>exact⟨0,[],Nat.zero_le _,rfl,OS.nil _ _,Nat.le_refl _,rfl,Below.refl _ _⟩
 case round=>
  obtain⟨k,l,hk,rfl,ho,hl,H,L⟩:=hrel;have hS:=L.size;by_cases hlt:k<vs.length
  ·obtain⟨t,ht,hd⟩:=Gt hlt
   have hts:=hsz t (List.mem_of_getElem? ht);have hA1:=hA.ah hB L;obtain⟨b,o,rfl,hbB,x0⟩:=hA1.tx k t ht;have H2:=Lib.hid (Yx vs k _ t hd H.out);have hPm:=Qb 44 t;have hPz:=qN 44 t;have hmr:=hm.below L (Nat.le_refl _);clear ht hd H;go_wp2_with fail
   refine(oI ⟨t.toArray⟩ 44 wr (by show t.length<_;omega) hmr).mono ?_
   rw[show(⟨t.toArray⟩:ByteArray).data.toList=t from rfl]
   rintro e w1 ⟨rfl,hR,L1⟩;obtain⟨P,hP⟩: ∃P,P=aS 44 t:=⟨_,rfl⟩;rw[<- hP]at hR hPm hPz H2⊢;have LW:=stepW L L1;have ho1:=ho.ah L1;have hown: ∀k,u4.ownBlock=some k-> k≠wr.heap.size:=fun k hk=>Nat.ne_of_lt (Own.lt ho k hk).2
   have hS1:=LW.size;have hm1:=hm.below LW (Nat.le_refl _);clear hP L1 x0 hmr hA1 ho L;obtain⟨g,hg⟩: ∃g,g=wr.heap.size:=⟨_,rfl⟩;rw[<- hg]at hR hown⊢;have hgl:g<w1.heap.size\/ P.length=0:=by
    rcases Nat.eq_zero_or_pos P.length with h|h
    ·exact .inr h
    ·obtain⟨b',o',e',hb',-⟩:=hR.2 h
     have e1:g=b':=by injection e' with e';injection e' with e1
     exact .inl (e1▸hb')
   clear hg;go_wp2
   go_loopw [4,18] (fun v i wi=> ∃(j:Nat) (lj:List Bs),j<= P.length/\ i= .int .i64 j/\ OS wi w.heap.size v lj/\ lj.length<= k*1000001+j/\ Hid ((P.take j).foldl tokF (some l)=some lj)/\ Below w.heap.size w wi/\ w1.heap.size<= wi.heap.size/\ Rd wi w1.heap.size 1 (some ⟨g,0,none⟩) P.length (P.map tv)/\ ∀k,v.ownBlock=some k-> k≠g) (fun _ i _=>P.length- (intOf i).toNat)
   case atStart=>
    refine⟨0,l,Nat.zero_le _,rfl,ho1,?_,Lib.hid rfl,LW,Nat.le_refl _,hR,hown⟩;exact Nat.le_trans hl (Nat.le_add_right _ _)
   case round=>
    obtain⟨j,lj,hj,rfl,hoj,hlj,HJ,LJ,hSJ,hRJ,UQ⟩:=hrel;have hSj:=LJ.size;have hmj:=hm.below LJ (Nat.le_refl _);by_cases hjt:j<P.length
    ·obtain⟨s,hs,-⟩:=Gt hjt
     have hss:=Nat.le_trans (hPz s (List.mem_of_getElem? hs)) hts;obtain⟨b2,o2,e2,hb2,x2⟩:=hRJ.tx j s hs;injection e2 with e2
     injection e2 with e2 e3
     subst e2 e3;rw[Nat.zero_add]at x2;have HT:=Lib.hid (show(P.take (j+1)).foldl tokF (some l)=tokF (some lj) s by rw[List.take_add_one,hs,Option.toList_some,List.foldl_append,HJ.out];rfl)
     have htr:=Ec s
     have HN:=Lib.hid (show tokF (some lj) s=none-> mY vs=none by
      intro h
      rw[H2.out,<- List.take_append_drop (j+1) P,List.foldl_append,HT.out,h,xJ,KT])
     clear hs HJ;go_wp2_with fail
     refine(qh ⟨s.toArray⟩ wr (iQ hss)).mono ?_;rw[show(⟨s.toArray⟩:ByteArray).data.toList=s from rfl]
     rintro e w2 ⟨rfl,L2⟩;have LK:=stepW LJ L2;have hok:=hoj.ah L2;have hRk:=(hRJ.ah hSJ L2);have hSk:=L2.size;clear LJ hoj hRJ x2;by_cases hE:bf s= []
     ·have HR:=Lib.hid (show(P.take (j+1)).foldl tokF (some l)=some lj by rw[HT.out,DU _ _ hE])
      have hEb:(bf s).isEmpty=true:=by rw[hE];rfl
      clear hE;go_wp2
      go_roundw
      case rel=>exact⟨j+1,lj,by omega,by go_num,hok,by omega,HR,LK,by omega,hRk,UQ⟩
      case measure=>simp[intOf];omega
     ·have hEb:(bf s).isEmpty=false:=by rw[List.isEmpty_eq_false_iff];exact hE
      have hT:=fun w=>gG ⟨(bf s).toArray⟩ w (iQ (Nat.le_trans htr hss))
      rw[show(⟨(bf s).toArray⟩:ByteArray).data.toList=bf s from rfl,show(allT (bf s)&&decide (0< (bf s).length))=tkL (bf s)from rfl]at hT
      cases hK:tkL (bf s)
      ·have HR:=Lib.hid (HN.out (IE _ _ hE hK))
       rw[hK]at hT;clear hE hK;go_wp2_with fail
       refine(hT w2).mono ?_;rintro e w3 ⟨rfl,rfl⟩;go_wp2
       go_ret2
       exact UO HR.out LK
      ·have HR:=Lib.hid (show(P.take (j+1)).foldl tokF (some l)=some (lj++ [dY (bf s)]) by rw[HT.out,IC _ _ hE hK])
       rw[hK]at hT;clear hE hK;go_wp2_with fail
       refine(hT w2).mono ?_;rintro e w3 ⟨rfl,rfl⟩;go_wp2_with fail
       refine(jw ⟨(bf s).toArray⟩ w2 (iQ (Nat.le_trans htr hss))).mono ?_;rw[show(⟨(bf s).toArray⟩:ByteArray).data.toList=bf s from rfl]
       rintro e w3 ⟨rfl,L3⟩;have LM:=stepW LK L3;have hol:=hok.ah L3;have hRl:=hRk.ah (by omega) L3
       have hSl:=L3.size;clear LK hok hRk;go_wp2_with (at_builtin;refine zQ rfl _ _ rfl w.heap.size _ _ rfl hol _ rfl ⟨(dY (bf s)).toArray⟩ rfl (by omega) (by omega) ?_;intro v' w4 ho4 hx)
       go_roundw
       case rel=>
        refine⟨j+1,lj++ [dY (bf s)],by omega,by go_num,ho4,by simp;omega,HR,LM.trans (hx.below hol (Nat.le_refl _) (by omega)),by have:=hx.fr.size;omega,?_,?_⟩
        ·refine hRl.frm (by omega) hx.fr ?_
         intro _ a ha hs;injection ha with ha
         subst ha;exact UQ _ hs rfl
        ·intro k' hk'
         rcases hx.own k' hk' with h|h
         ·exact UQ k' h
         ·rcases hgl with h2|h2
          ·omega
          ·omega
       case measure=>simp[intOf];omega
    ·have HR:=Lib.hid (show mY vs=yF (some lj) (vs.drop (k+1)) by rw[H2.out,<- HJ.out,List.take_of_length_le (by omega)])
     go_wp2
     go_roundw
     case rel=>exact⟨k+1,lj,by omega,by go_num,hoj,by omega,HR,LJ⟩
     case measure=>simp[intOf];omega
  ·have HR:=Lib.hid (show mY vs=some l by rw[H.out,List.drop_of_length_le (by omega)];rfl)
   go_wp2
   go_ret2
   exact Yw ho HR.out L
def refusal (s:Int):List PanicEntry:= [{ v:=.iface 423 (.agg #[.int .i64 s]),recovered:=false }]
theorem bV (s:Int) (w:World):
 Calls Tryz.prog 364 #[.bool true,.int .i64 s] w fun e w'=>e= .returned (.tuple #[])/\ w=w':=by
 go_enter Tryz.func364,Tryz.ntmps364
 go_wp2
 go_end0
 exact⟨rfl,rfl⟩
theorem dH (s:Int) (w:World):
 Calls Tryz.prog 364 #[.bool false,.int .i64 s] w fun e w'=>e= .panicked (refusal s)/\ w=w':=by
 go_enter Tryz.func364,Tryz.ntmps364
 go_wp2
 exact⟨rfl,rfl,rfl⟩
theorem Qc (h s:Nat) (hhs:h≠s) (x y:Int) (older:List PanicEntry) (w:World) (k:How) (B1:Blk w h 352 #[.int .i64 k.kind,.int .i64 k.len,.bool k.close,.bool k.expect]) (B2:Blk w s 3 #[.int .i64 y]):
 CallsD Tryz.prog 363 #[.pointer (some ⟨h,0,none⟩),.pointer (some ⟨s,0,none⟩)] (.panicking ({ v:=.iface 423 (.agg #[.int .i64 x]),recovered:=false } ::older)) w fun e u' w'=>
  e= .returned (.tuple #[])/\ u'= .panicking ({ v:=.iface 423 (.agg #[.int .i64 x]),recovered:=true } ::older)/\ Blk w' h 352 #[.int .i64 0,.int .i64 0,.bool false,.bool false]/\ Blk w' s 3 #[.int .i64 x]/\ Fr (fun i=>i=h\/ i=s) w w':=by
 have ha: ∀(v:Value) (w:World),(Instr.typeAssert (.iface 423 v) 20 423 true).run Tryz.prog w= .ok (.tuple #[v,.bool true]) w:=fun _ _=>by kernel_rfl
 have hq: ∀(v:Value) (w:World),(binOp .eql 20 (.iface 423 v) .nilIface).run Tryz.prog w= .ok (.bool false) w:=fun _ _=>by kernel_rfl
 obtain⟨j0,j1,j2,j3,i0,i1,i2,i3⟩:=B1.c4;obtain⟨k0,g0⟩:=B2.c1;refine callsD_of_wpS Tryz.func363 rfl fun c₀ cs hu=> ?_
 apply wpS_seq;apply wpS_region;simp[wpOpsS,go_sem,recoverD,hu,Tryz.ntmps363,Exit.thenS];refine wpS_of_wp ?_;go_wp2
 clear j0 j1 j2 j3 i0 i1 i2 i3 k0 g0 ha hq;have LV:Below w.heap.size w (w.alloc (.cells #[.int .i64 x] 423)):=aj (Below.refl _ _) _;have BV:Blk (w.alloc (.cells #[.int .i64 x] 423)) w.heap.size 423 #[.int .i64 x]:=Blk.new' _ _ rfl _ _;obtain⟨V,hV⟩: ∃V,V=w.alloc (.cells #[.int .i64 x] 423):=⟨_,rfl⟩;rw[<- hV]at LV BV⊢;have C1:=B1.ah LV;have C2:=B2.ah LV;have hh:=B1.lt;have hs:=B2.lt;have h1: ¬h=s:=hhs;have h2: ¬h=w.heap.size:=by omega
 have h3: ¬s=w.heap.size:=by omega
 have h4: ¬s=h:=fun e=>hhs e.symm
 clear hV;obtain⟨j0,j1,j2,j3,i0,i1,i2,i3⟩:=C1.c4;obtain⟨k0,g0⟩:=C2.c1;obtain⟨m0,n0⟩:=BV.c1;clear B1 B2;have D1:Blk (((((V.setCell ⟨h,0,none⟩ (.int .i64 0)).setCell ⟨h,1,none⟩ (.int .i64 0)).setCell ⟨h,2,none⟩ (.bool false)).setCell ⟨h,3,none⟩ (.bool false)).setCell ⟨s,0,none⟩ (.int .i64 x)).drew h 352 #[.int .i64 0,.int .i64 0,.bool false,.bool false]:=
  ((((C1.ay 0 (.int .i64 0)).ay 1 (.int .i64 0)).ay 2 (.bool false)).ay 3 (.bool false)).far (p:=⟨s,0,none⟩) hhs (.int .i64 x)
 have D2:Blk (((((V.setCell ⟨h,0,none⟩ (.int .i64 0)).setCell ⟨h,1,none⟩ (.int .i64 0)).setCell ⟨h,2,none⟩ (.bool false)).setCell ⟨h,3,none⟩ (.bool false)).setCell ⟨s,0,none⟩ (.int .i64 x)).drew s 3 #[.int .i64 x]:=
  ((((C2.far (p:=⟨h,0,none⟩) h4 (.int .i64 0)).far (p:=⟨h,1,none⟩) h4 (.int .i64 0)).far (p:=⟨h,2,none⟩) h4 (.bool false)).far (p:=⟨h,3,none⟩) h4 (.bool false)).ay 0 (.int .i64 x)
 have D3:Fr (fun i=>i=h\/ i=s) w (((((V.setCell ⟨h,0,none⟩ (.int .i64 0)).setCell ⟨h,1,none⟩ (.int .i64 0)).setCell ⟨h,2,none⟩ (.bool false)).setCell ⟨h,3,none⟩ (.bool false)).setCell ⟨s,0,none⟩ (.int .i64 x)).drew:=
  (((((((Fr.dB LV).mono fun i hi=>.inr hi).setCell (p:=⟨h,0,none⟩) (.inl (.inl rfl)) _).setCell (p:=⟨h,1,none⟩) (.inl (.inl rfl)) _).setCell (p:=⟨h,2,none⟩) (.inl (.inl rfl)) _).setCell (p:=⟨h,3,none⟩) (.inl (.inl rfl)) _).setCell (p:=⟨s,0,none⟩) (.inl (.inr rfl)) _).drew
 go_region
 all_goals
  go_wp2
  simp[bodyPostS,results,Tryz.results363];exact⟨D1,D2,D3⟩
theorem UR (p q:Value) (w:World):
 CallsD Tryz.prog 363 #[p,q] .returning w fun e u' w'=>e= .returned (.tuple #[])/\ u'= .returning/\ w=w':=by
 have hq: ∀(w:World),(binOp .eql 20 .nilIface .nilIface).run Tryz.prog w= .ok (.bool true) w:=fun _=>by kernel_rfl
 refine callsD_of_wpS Tryz.func363 rfl fun c₀ cs hu=> ?_
 apply wpS_seq;apply wpS_region;simp[wpOpsS,go_sem,recoverD,hu,Tryz.ntmps363,Exit.thenS];refine wpS_of_wp ?_;go_wp2
 cases c₀
 simp_all [bodyPostS,results,Tryz.results363]
def FP (w:World) (p:Option Addr) (l:List Fd):Prop:=(p=none/\ l= [])\/ ∃g,p=some ⟨g,0,none⟩/\ FR w 347 g l
theorem FP.ah {w w':World} {p:Option Addr} {l:List Fd} (h:FP w p l) (hb:Below w.heap.size w w'):FP w' p l:=by
 rcases h with⟨rfl,rfl⟩| ⟨g,rfl,h⟩
 ·exact .inl ⟨rfl,rfl⟩
 ·exact .inr ⟨g,rfl,h.ah hb⟩
theorem Ed (p:Option Addr) (l:List Fd) (name:ByteArray) (w:World) (hF:FP w p l) (hl:l.length<= 24) (hsz:oJ l) (hnm:name.size<= 1000000):
 Calls Tryz.prog 317 #[.pointer p,.string name] w (zi w (aO name.data.toList l)):=by
 rcases hF with⟨rfl,rfl⟩| ⟨g,rfl,h⟩
 ·exact kX name w
 ·exact uG g l name w h (by omega) hsz (iQ hnm)
theorem LD (p:Option Addr) (l:List Fd) (name:ByteArray) (w:World) (hF:FP w p l) (hl:l.length<= 24) (hsz:oJ l) (hnm:name.size<= 1000000):
 Calls Tryz.prog 366 #[.pointer p,.string name] w fun e w'=>e= .returned (.bool (!(aO name.data.toList l).isEmpty))/\ Below w.heap.size w w':=by
 rcases hF with⟨rfl,rfl⟩| ⟨g,rfl,h⟩
 ·exact II name w
 ·exact XV g l name w h (by omega) hsz (iQ hnm)
theorem aal (p:Option Addr) (l:List Fd) (name:ByteArray) (w:World) (hF:FP w p l) (hl:l.length<= 24) (hsz:oJ l) (hnm:name.size<= 1000000):
 Calls Tryz.prog 291 #[.pointer p,.string name] w fun e w'=>e= .returned (sv (kT (aO name.data.toList l)))/\ Below w.heap.size w w':=by
 rcases hF with⟨rfl,rfl⟩| ⟨g,rfl,h⟩
 ·go_enter Tryz.func291,Tryz.ntmps291
  go_wp2_with fail
  refine(kX name w).mono ?_;rintro e w1 ⟨⟨A,c,rfl,h1,h2,h3⟩,L⟩;go_wp2_with fail
  refine(IJ A c _ [] w1 h3 (Nat.le_refl _) h1 (by decide) (by decide)).mono ?_
  rintro e w2 ⟨rfl,L2⟩;go_wp2
  go_ret
  exact⟨rfl,stepW L L2⟩
 ·exact XW g l name w h (by omega) hsz (iQ hnm)
theorem qO (n:Bs) (l:List Fd) (h:oJ l):UN (aO n l):=by
 intro v hv;obtain⟨f,h1,rfl⟩:=DT _ _ v hv;exact(h f h1).2
def aam (w:World) (o:Option (List Bs)) (e:Ending) (w':World):Prop:=
 ((o=none/\ e= .panicked (refusal 400))\/ ∃t A c,o=some t/\ e= .returned (.slice A t.length c)/\ t.length<= c/\ c<= maxLen/\ Rd w' w'.heap.size 1 A t.length (t.map tv))/\ Below w.heap.size w w'
theorem uN (p:Option Addr) (l:List Fd) (name:ByteArray) (w:World) (hF:FP w p l) (hl:l.length<= 24) (hsz:oJ l) (hnm:name.size<= 1000000) (hm:ML w):
 Calls Tryz.prog 368 #[.pointer p,.string name] w (aam w (mY (aO name.data.toList l))):=by
 have hvl:=mX name.data.toList l;go_enter Tryz.func368,Tryz.ntmps368
 go_wp2_with fail
 refine(Ed p l name w hF hl hsz hnm).mono ?_;rintro e w1 ⟨⟨A,c,rfl,h1,h2,h3⟩,L⟩;go_wp2_with fail
 refine(LC A c _ (aO name.data.toList l) w1 h3 (Nat.le_refl _) (by omega) (qO _ _ hsz) (hm.below L (Nat.le_refl _))).mono ?_
 rintro e w2 ⟨⟨A2,c2,rfl,k1,k2,k3⟩,L2⟩;have LL:=stepW L L2;generalize mY (aO name.data.toList l)=o at*;cases o with
 |none=>
  rw[show((none:Option (List Bs)).getD [])= []from rfl,show(none:Option (List Bs)).isSome=false from rfl]
  go_wp2_with fail
  refine(dH 400 w2).mono ?_;rintro e w3 ⟨rfl,rfl⟩;exact⟨rfl,.inl ⟨rfl,rfl⟩,LL⟩
 |some t=>
  rw[show((some t:Option (List Bs)).getD [])=t from rfl]at k1 k3
  rw[show((some t:Option (List Bs)).getD [])=t from rfl,show(some t:Option (List Bs)).isSome=true from rfl]
  go_wp2_with fail
  refine(bV 400 w2).mono ?_;rintro e w3 ⟨rfl,rfl⟩;go_wp2
  go_ret
  exact⟨.inr ⟨t,A2,c2,rfl,rfl,k1,k2,k3⟩,LL⟩
def wo (x:Bs):List Bs-> Nat-> Int
 | [],_=> -1
 |z::zs,i=>if z=x then i else wo x zs (i+1)
theorem mk_eq (z:Bs) (x:ByteArray):((⟨z.toArray⟩:ByteArray)=x)↔z=x.data.toList:=by
 constructor
 ·rintro rfl;rfl
 ·intro h;exact fQ h
theorem Jg (x:ByteArray): ∀(t:List Bs) (i:Nat),Lib.idxFromS (t.map fun l=>(⟨l.toArray⟩:ByteArray)) x i=wo x.data.toList t i
 | [],_=>rfl
 |z::t,i=>by
  rw[List.map_cons,Lib.idxFromS,wo];by_cases h:z=x.data.toList
  ·rw[if_pos h,if_pos ((mk_eq z x).2 h)]
  ·rw[if_neg h,if_neg (fun e=>h ((mk_eq z x).1 e)),Jg x t (i+1)]
theorem Ee (x:Bs): ∀(t:List Bs) (i:Nat),(wo x t i= -1/\ x∉t)\/ ∃k,k<t.length/\ wo x t i=((i+k:Nat):Int)/\ t[k]? = some x/\ x∉t.take k
 | [],i=>.inl ⟨rfl,by simp⟩
 |z::t,i=>by
  rw[wo];by_cases h:z=x
  ·rw[if_pos h]
   exact .inr ⟨0,by simp,by simp,by simp[h],by simp⟩
  ·rw[if_neg h]
   rcases Ee x t (i+1)with⟨h1,h2⟩| ⟨k,h1,h2,h3,h4⟩
   ·exact .inl ⟨h1,by simp[h2,Ne.symm h]⟩
   ·refine .inr ⟨k+1,by simp;omega,by rw[h2];congr 1;omega,by simpa using h3,by simp[h4,Ne.symm h]⟩
theorem Yy (t:List Bs):(xK t=400/\ (wo bP t 0<0\/ (0<= wo bP t 0/\ wo bP t 0≠(t.length:Int)-1)))\/ (xK t=501/\ 0<wo bP t 0/\ wo bP t 0=(t.length:Int)-1)\/ (xK t=0/\ wo bP t 0=0/\ (t.length:Int)-1=0):=by
 rcases Ee bP t 0 with⟨h1,h2⟩| ⟨k,h1,h2,h3,h4⟩
 ·refine .inl ⟨?_,.inl (by omega)⟩
  rw[xK,if_neg];intro h;exact h2 (List.mem_of_getLast? h)
 ·rw[Nat.zero_add]at h2
  rw[h2];by_cases hk:k=t.length-1
  ·have hl:t.getLast? = some bP:=by rw[List.getLast?_eq_getElem?,<- hk];exact h3
   have hd:bP∉t.dropLast:=by rw[List.dropLast_eq_take,<- hk];exact h4
   by_cases h0:k=0
   ·refine .inr (.inr ⟨?_,by omega,by omega⟩)
    rw[xK,if_pos hl,if_neg hd,if_pos (by omega)]
   ·refine .inr (.inl ⟨?_,by omega,by omega⟩)
    rw[xK,if_pos hl,if_neg hd,if_neg (by omega)]
  ·refine .inl ⟨?_,.inr ⟨by omega,by omega⟩⟩
   rw[xK];by_cases hl:t.getLast? = some bP
   ·rw[if_pos hl,if_pos]
    rw[List.dropLast_eq_take];have:(t.take (t.length-1))[k]? = some bP:=by rw[List.getElem?_take_of_lt (by omega)];exact h3
    exact List.mem_of_getElem? this
   ·rw[if_neg hl]
theorem Oc {w:World} {B:Nat} {A:Option Addr} {t:List Bs} (hA:Rd w B 1 A t.length (t.map tv)) (h0:0<t.length): ∃b o,A=some ⟨b,o,none⟩/\ ∀j,j< (t.map fun l=>(⟨l.toArray⟩:ByteArray)).length-> w.cell? ⟨b,o+j,none⟩=some (.string ((t.map fun l=>(⟨l.toArray⟩:ByteArray)).getD j ByteArray.empty)):=by
 obtain⟨b,o,e,hb,hc⟩:=hA.2 h0;refine⟨b,o,e,fun j hj=> ?_⟩
 rw[List.length_map]at hj;rw[hc j (tv t[j]) (by rw[List.getElem?_map,List.getElem?_eq_getElem hj];rfl)]
 rw[List.getD_eq_getElem?_getD,List.getElem?_map,List.getElem?_eq_getElem hj];rfl
theorem Qd (A:Option Addr) (c B:Nat) (t:List Bs) (x:ByteArray) (w:World) (hA:Rd w B 1 A t.length (t.map tv)) (hn:t.length<= 9223372036854775807):
 Calls Tryz.prog 220 #[.slice A t.length c,.string x] w fun e w'=>e= .returned (.int .i64 (wo x.data.toList t 0))/\ w=w':=by
 rcases Nat.eq_zero_or_pos t.length with h0|h0
 ·obtain rfl:t= []:=List.eq_nil_of_length_eq_zero h0
  refine(Tryz.slices_Index_string_empty A c x w).mono ?_;rintro e w' ⟨rfl,rfl⟩;exact⟨rfl,rfl⟩
 ·obtain⟨b,o,rfl,hc⟩:=Oc hA h0
  refine(Tryz.slices_Index_string b o t.length c (t.map fun l=>(⟨l.toArray⟩:ByteArray)) x w (by simp) hn hc).mono ?_
  rintro e w' ⟨rfl,rfl⟩;rw[List.take_of_length_le (by simp),Lib.idxOfS,Jg]
  exact⟨rfl,rfl⟩
theorem wu (A:Option Addr) (c B:Nat) (t:List Bs) (x:ByteArray) (w:World) (hA:Rd w B 1 A t.length (t.map tv)) (hn:t.length<= 9223372036854775807):
 Calls Tryz.prog 178 #[.slice A t.length c,.string x] w fun e w'=>e= .returned (.bool (t.contains x.data.toList))/\ w=w':=by
 rcases Nat.eq_zero_or_pos t.length with h0|h0
 ·obtain rfl:t= []:=List.eq_nil_of_length_eq_zero h0
  refine(Tryz.slices_Contains_string_empty A c x w).mono ?_;rintro e w' ⟨rfl,rfl⟩;exact⟨rfl,rfl⟩
 ·obtain⟨b,o,rfl,hc⟩:=Oc hA h0
  refine(Tryz.slices_Contains_string b o t.length c (t.map fun l=>(⟨l.toArray⟩:ByteArray)) x w (by simp) hn hc).mono ?_
  rintro e w' ⟨rfl,rfl⟩;rw[List.take_of_length_le (by simp)]
  have:Lib.containsS (t.map fun l=>(⟨l.toArray⟩:ByteArray)) x=t.contains x.data.toList:=by
   rw[Bool.eq_iff_iff,Lib.containsS_iff,List.contains_iff_mem,List.mem_map];constructor
   ·rintro⟨l,h1,h2⟩;rw[<- (mk_eq l x).1 h2];exact h1
   ·intro h;exact⟨_,h,(mk_eq _ x).2 rfl⟩
  rw[this];exact⟨rfl,rfl⟩
def UU (w:World) (s:Int) (v:Value) (e:Ending) (w':World):Prop:=
 ((s=0/\ e= .returned v)\/ (s≠0/\ e= .panicked (refusal s)))/\ Below w.heap.size w w'
theorem Qe (A:Option Addr) (c B:Nat) (t:List Bs) (w:World) (hA:Rd w B 1 A t.length (t.map tv)) (hn:t.length<= 9223372036854775807):
 Calls Tryz.prog 367 #[.slice A t.length c] w (UU w (xK t) (.tuple #[])):=by
 have hcd:=Yy t;have hz:0<=(t.length:Int):=by omega
 have hI:=Qd A c B t ⟨bP.toArray⟩ w hA hn;rw[show(⟨bP.toArray⟩:ByteArray).data.toList=bP from rfl]at hI
 generalize xK t=C at*;generalize wo bP t 0=I at*;rcases hcd with⟨rfl,h| ⟨h1,h2⟩⟩| ⟨rfl,h1,h2⟩| ⟨rfl,rfl,h2⟩
 ·go_enter Tryz.func367,Tryz.ntmps367
  go_wp2_with fail
  refine hI.mono ?_;rintro e w' ⟨rfl,rfl⟩;go_wp2_with fail
  refine(dH 400 w).mono ?_;rintro e w3 ⟨rfl,rfl⟩;exact⟨rfl,.inr ⟨by decide,rfl⟩,Below.refl _ _⟩
 ·have h3:(I==(t.length:Int)-1)=false:=by rw[Bool.eq_false_iff];intro h;exact h2 (beq_iff_eq.1 h)
  have q1:IntKind.i64.wrap ((t.length:Int)-1)=(t.length:Int)-1:=IntWalk.i64_in _ (by omega)
  go_enter Tryz.func367,Tryz.ntmps367
  go_wp2_with fail
  refine hI.mono ?_;rintro e w' ⟨rfl,rfl⟩;go_wp2_with fail
  refine(dH 400 w).mono ?_;rintro e w3 ⟨rfl,rfl⟩;exact⟨rfl,.inr ⟨by decide,rfl⟩,Below.refl _ _⟩
 ·have h3:(I==(t.length:Int)-1)=true:=by rw[beq_iff_eq];exact h2
  have h4:(I==0)=false:=by rw[Bool.eq_false_iff];intro h;have:=beq_iff_eq.1 h;omega
  have q1:IntKind.i64.wrap ((t.length:Int)-1)=(t.length:Int)-1:=IntWalk.i64_in _ (by omega)
  have h5:0<= I:=by omega
  clear h2;go_enter Tryz.func367,Tryz.ntmps367
  go_wp2_with fail
  refine hI.mono ?_;rintro e w' ⟨rfl,rfl⟩;go_wp2_with fail
  refine(bV 400 w).mono ?_;rintro e w3 ⟨rfl,rfl⟩;go_wp2_with fail
  refine(dH 501 w).mono ?_;rintro e w3 ⟨rfl,rfl⟩;exact⟨rfl,.inr ⟨by decide,rfl⟩,Below.refl _ _⟩
 ·have h3:((0:Int)==(t.length:Int)-1)=true:=by rw[beq_iff_eq];omega
  have q1:IntKind.i64.wrap ((t.length:Int)-1)=(t.length:Int)-1:=IntWalk.i64_in _ (by omega)
  clear h2;go_enter Tryz.func367,Tryz.ntmps367
  go_wp2_with fail
  refine hI.mono ?_;rintro e w' ⟨rfl,rfl⟩;go_wp2_with fail
  refine(bV 400 w).mono ?_;rintro e w3 ⟨rfl,rfl⟩;go_wp2_with fail
  refine(bV 501 w).mono ?_;rintro e w3 ⟨rfl,rfl⟩;go_wp2
  go_end0
  exact⟨.inl ⟨rfl,rfl⟩,Below.refl _ _⟩
theorem nP (t:List Bs) (n:Int):jk t=some n↔t≠[]/\ ∀x∈t,dA 10 15 x=some n:=by
 cases t with
 |nil=>simp[jk]
 |cons s r=>
  rw[jk];cases hs:dA 10 15 s with
  |none=>
   simp only[Option.bind_none];constructor
   ·intro h;cases h
   ·rintro⟨-,h⟩
    have:=h s (by simp)
    rw[hs]at this;cases this
  |some m=>
   simp only[Option.bind_some];split
   ·rename_i ha
    rw[List.all_eq_true]at ha;constructor
    ·intro h
     injection h with h
     subst h;refine⟨by simp,fun x hx=> ?_⟩
     rcases List.mem_cons.1 hx with rfl|hx
     ·exact hs
     ·simpa using ha x hx
    ·rintro⟨-,h⟩
     have:=h s (by simp)
     rw[hs]at this;exact this
   ·rename_i ha
    constructor
    ·intro h;cases h
    ·rintro⟨-,h⟩
     exfalso;have h1:=h s (by simp)
     rw[hs]at h1;injection h1 with h1
     subst h1;exact ha (List.all_eq_true.2 fun x hx=>by simpa using h x (by simp[hx]))
theorem Ef (t:List Bs) (k:Nat) (x:Bs) (n:Int) (hx:t[k]? = some x) (hn:dA 10 15 x=some n) (h:k=0\/ jk (t.take k)=some n):jk (t.take (k+1))=some n:=by
 rw[nP];rw[List.take_add_one,hx,Option.toList_some];refine⟨by simp,fun y hy=> ?_⟩
 rcases List.mem_append.1 hy with hy|hy
 ·rcases h with h|h
  ·subst h;simp at hy
  ·exact((nP _ _).1 h).2 y hy
 ·rw[List.mem_singleton]at hy;subst hy;exact hn
theorem UW (t:List Bs) (k:Nat) (x:Bs) (n:Int) (hx:t[k]? = some x) (hn:dA 10 15 x≠some n) (_h0:0<k) (h:jk (t.take k)=some n):jk t=none:=by
 cases hs:jk t with
 |none=>rfl
 |some m=>
  exfalso;have h1:=((nP _ _).1 hs).2;have h2:=(nP _ _).1 h;obtain⟨y,hy⟩:=List.exists_mem_of_ne_nil _ h2.1;have h3:=h2.2 y hy;rw[h1 y (List.mem_of_mem_take hy)]at h3;injection h3 with h3
  subst h3;exact hn (h1 x (List.mem_of_getElem? hx))
theorem LG (t:List Bs) (k:Nat) (x:Bs) (hx:t[k]? = some x) (hn:dA 10 15 x=none):jk t=none:=by
 cases hs:jk t with
 |none=>rfl
 |some m=>
  exfalso;have h1:=((nP _ _).1 hs).2 x (List.mem_of_getElem? hx);rw[hn]at h1;cases h1
theorem Eh (t:List Bs) (h:jk t=none):pR t=(0,400):=by rw[pR,h]
theorem LH (A:Option Addr) (c B:Nat) (t:List Bs) (w:World) (hA:Rd w B 1 A t.length (t.map tv)) (hB:B<= w.heap.size) (hn:t.length<= 9223372036854775807) (hsz:UN t):
 Calls Tryz.prog 369 #[.slice A t.length c] w (UU w (pR t).2 (.int .i64 (pR t).1)):=by
 rcases Nat.eq_zero_or_pos t.length with h0|h0
 ·obtain rfl:t= []:=List.eq_nil_of_length_eq_zero h0
  go_enter Tryz.func369,Tryz.ntmps369
  go_wp2_with fail
  refine(dH 400 w).mono ?_;rintro e w3 ⟨rfl,rfl⟩;exact⟨rfl,.inr ⟨by decide,rfl⟩,Below.refl _ _⟩
 ·have h0i:(0:Int)<t.length:=by omega
  go_enter Tryz.func369,Tryz.ntmps369
  go_wp2_with fail
  refine(bV 400 w).mono ?_;rintro e w3 ⟨rfl,rfl⟩;go_wp2
  go_loopw [3,14] (fun v i wr=> ∃(k:Nat) (n:Int),k<= t.length/\ i= .int .i64 k/\ v= .int .i64 n/\ Hid (k=0\/ (0<k/\ jk (t.take k)=some n))/\ Below w.heap.size w wr) (fun _ i _=>t.length- (intOf i).toNat)
  case atStart=>exact⟨0,0,Nat.zero_le _,rfl,rfl,Lib.hid (.inl rfl),Below.refl _ _⟩
  case round=>
   obtain⟨k,n,hk,rfl,rfl,H,L⟩:=hrel;by_cases hlt:k<t.length
   ·obtain⟨x,hx,-⟩:=Gt hlt
    have hxs:=hsz x (List.mem_of_getElem? hx);obtain⟨b,o,rfl,hb,x0⟩:=(hA.ah hB L).tx k x hx;have Hx:=Lib.hid hx;clear hx;go_wp2_with fail
    refine(FB ⟨x.toArray⟩ wr (iQ hxs)).mono ?_;rw[show(⟨x.toArray⟩:ByteArray).data.toList=x from rfl]
    cases hN:dA 10 15 x with
    |none=>
     have HR:=Lib.hid (Eh t (LG t k x Hx.out hN));clear hN;rintro e w1 ⟨rfl,L1⟩;rw[show CY none= .tuple #[.int .i64 0,.bool false]from rfl]
     go_wp2_with fail
     refine(dH 400 w1).mono ?_;rintro e w2 ⟨rfl,rfl⟩;exact⟨rfl,by rw[HR.out];exact .inr ⟨by decide,rfl⟩,stepW L L1⟩
    |some m=>
     have HN:=Lib.hid hN;clear hN;rintro e w1 ⟨rfl,L1⟩;rw[show CY (some m)= .tuple #[.int .i64 m,.bool true]from rfl]
     have LL:=stepW L L1;clear x0;by_cases hz:k=0
     ·subst hz
      have HT:=Lib.hid (Ef t 0 x m Hx.out HN.out (.inl rfl));go_wp2_with fail
      refine(bV 400 w1).mono ?_;rintro e w2 ⟨rfl,rfl⟩;go_wp2
      go_roundw
      case rel=>exact⟨1,m,by omega,rfl,rfl,Lib.hid (.inr ⟨by omega,HT.out⟩),LL⟩
      case measure=>simp[intOf];omega
     ·have hs:jk (t.take k)=some n:=by
       rcases H.out with h|h
       ·exact absurd h hz
       ·exact h.2
      have hz1:((k:Int)==0)=false:=by rw[Bool.eq_false_iff];intro h;have:=beq_iff_eq.1 h;omega
      by_cases hmn:m=n
      ·subst hmn
       have HT:=Lib.hid (Ef t k x m Hx.out HN.out (.inr hs));clear hs;go_wp2_with fail
       refine(bV 400 w1).mono ?_;rintro e w2 ⟨rfl,rfl⟩;go_wp2
       go_roundw
       case rel=>exact⟨k+1,m,by omega,by go_num,rfl,Lib.hid (.inr ⟨by omega,HT.out⟩),LL⟩
       case measure=>simp[intOf];omega
      ·have hmn1:(m==n)=false:=by rw[Bool.eq_false_iff];intro h;exact hmn (beq_iff_eq.1 h)
       have HR:=Lib.hid (Eh t (UW t k x n Hx.out (by rw[HN.out];intro h;exact hmn (Option.some.inj h)) (by omega) hs))
       clear hs;go_wp2_with fail
       refine(dH 400 w1).mono ?_;rintro e w2 ⟨rfl,rfl⟩;exact⟨rfl,by rw[HR.out];exact .inr ⟨by decide,rfl⟩,LL⟩
   ·have hs:jk t=some n:=by
     rcases H.out with h|h
     ·omega
     ·rw[List.take_of_length_le (by omega)]at h;exact h.2
    by_cases hn2:n<= 2048
    ·have HR:=Lib.hid (show pR t=(n,0) by rw[pR,hs];exact if_pos hn2)
     clear hs;go_wp2_with fail
     refine(bV 413 wr).mono ?_;rintro e w2 ⟨rfl,rfl⟩;go_wp2
     go_ret
     exact⟨by rw[HR.out];exact .inl ⟨rfl,rfl⟩,L⟩
    ·have HR:=Lib.hid (show pR t=(0,413) by rw[pR,hs];exact if_neg hn2)
     clear hs;go_wp2_with fail
     refine(dH 413 wr).mono ?_;rintro e w2 ⟨rfl,rfl⟩;exact⟨rfl,by rw[HR.out];exact .inr ⟨by decide,rfl⟩,L⟩
abbrev xX (k:How):Array Value:=#[.int .i64 k.kind,.int .i64 k.len,.bool k.close,.bool k.expect]
theorem yH (tmps:Array Value) (h s:Nat) (w:World) (k:How) (y:Int) (h4:tmps[4]? = some (.pointer (some ⟨h,0,none⟩))) (h5:tmps[5]? = some (.pointer (some ⟨s,0,none⟩)))
 (B1:Blk w h 352 (xX k)) (B2:Blk w s 3 #[.int .i64 y]):(results Tryz.f344 tmps).run Tryz.prog w= .ok (FT (k,y)) w:=by
 obtain⟨j0,j1,j2,j3,-,-,-,-⟩:=B1.c4;obtain⟨k0,-⟩:=B2.c1;simp[results,Tryz.results344,go_sem,h4,h5,j0,j1,j2,j3,k0,FT]
def Bf (h s:Nat):List Deferred:= [{ target:=.fn (.func 363) #[.pointer (some ⟨h,0,none⟩),.pointer (some ⟨s,0,none⟩)],args:=#[] }]
theorem LP (tmps:Array Value) (h s:Nat) (hhs:h≠s) (w:World) (k:How) (y x:Int) (R:Ending-> World-> Prop) (h4:tmps[4]? = some (.pointer (some ⟨h,0,none⟩))) (h5:tmps[5]? = some (.pointer (some ⟨s,0,none⟩)))
 (B1:Blk w h 352 (xX k)) (B2:Blk w s 3 #[.int .i64 y]) (hR: ∀w',Fr (fun i=>i=h\/ i=s) w w'-> R (.returned (FT (eU,x))) w'):
 bodyPostD Tryz.prog Tryz.f344 R (.panic (refusal x)) { tmps:=tmps,defers:=Bf h s } w:=by
 show Leaves _ _ tmps R (Bf h s) (.panicking (refusal x)) w;refine leaves_cons (f:=363) (args:=#[.pointer (some ⟨h,0,none⟩),.pointer (some ⟨s,0,none⟩)]) (by simp) (by simp[go_sem]) ?_
 refine(Qc h s hhs x y [] w k B1 B2).mono ?_;rintro e u' w' ⟨rfl,rfl,D1,D2,D3⟩;exact⟨_,yH tmps h s w' eU x h4 h5 D1 D2,hR w' D3⟩
theorem UY (tmps:Array Value) (h s:Nat) (w:World) (k:How) (y:Int) (R:Ending-> World-> Prop) (h4:tmps[4]? = some (.pointer (some ⟨h,0,none⟩))) (h5:tmps[5]? = some (.pointer (some ⟨s,0,none⟩)))
 (B1:Blk w h 352 (xX k)) (B2:Blk w s 3 #[.int .i64 y]) (hR:R (.returned (FT (k,y))) w):
 Leaves Tryz.prog Tryz.f344 tmps R (Bf h s) .returning w:=by
 refine leaves_cons (f:=363) (args:=#[.pointer (some ⟨h,0,none⟩),.pointer (some ⟨s,0,none⟩)]) (by simp) (by simp[go_sem]) ?_
 refine(UR _ _ w).mono ?_;rintro e u' w' ⟨rfl,rfl,rfl⟩;exact⟨_,yH tmps h s w k y h4 h5 B1 B2,hR⟩
theorem gK (tmps:Array Value) (w wx:World) (k:How) (y x:Int) (FR:How×Int) (h4:tmps[4]? = some (.pointer (some ⟨w.heap.size,0,none⟩))) (h5:tmps[5]? = some (.pointer (some ⟨w.heap.size+1,0,none⟩)))
 (B1:Blk wx w.heap.size 352 (xX k)) (B2:Blk wx (w.heap.size+1) 3 #[.int .i64 y]) (L:Below w.heap.size w wx) (hr:FR=(eU,x)):
 bodyPostD Tryz.prog Tryz.f344 (fun e w'=>e= .returned (FT FR)/\ Below w.heap.size w w') (.panic (refusal x)) { tmps:=tmps,defers:=Bf w.heap.size (w.heap.size+1) } wx:=by
 subst hr;refine LP tmps w.heap.size (w.heap.size+1) (by omega) wx k y x _ h4 h5 B1 B2 fun w' hf=>⟨rfl,L.trans (hf.toBelow L.size ?_)⟩
 intro i hi;omega
theorem Gu (M:Nat): ∀(P st l:List Bs),P.foldl tokF (some st)=some l->(∀x∈st,x.length<= M)->(∀s∈P,s.length<= M)-> ∀x∈l,x.length<= M
 | [],st,l,h,h1,_=>by injection h with h;subst h;exact h1
 |s::P,st,l,h,h1,h2=>by
  rw[List.foldl_cons]at h;have hs:=h2 s (by simp)
  have ht:=Ec s;by_cases e:bf s= []
  ·rw[DU _ _ e]at h
   exact Gu M P st l h h1 (fun y hy=>h2 y (by simp[hy]))
  ·cases hk:tkL (bf s)
   ·rw[IE _ _ e hk,xJ]at h
    cases h
   ·rw[IC _ _ e hk]at h
    refine Gu M P _ l h (fun y hy=> ?_) (fun y hy=>h2 y (by simp[hy]))
    rcases List.mem_append.1 hy with hy|hy
    ·exact h1 y hy
    ·rw[List.mem_singleton]at hy
     subst hy;rw[dY,List.length_map];omega
theorem Yz (vs t:List Bs) (h:mY vs=some t) (hs:UN vs):UN t:=by
 refine Gu 1000000 _ [] t h (by simp) fun s hs2=> ?_
 obtain⟨v,hv,hv2⟩:=List.mem_flatMap.1 hs2;exact Nat.le_trans (qN 44 v s hv2) (hs v hv)
theorem wz (tmps:Array Value) (w wx:World) (k:How) (y:Int) (FR:How×Int) (h4:tmps[4]? = some (.pointer (some ⟨w.heap.size,0,none⟩))) (h5:tmps[5]? = some (.pointer (some ⟨w.heap.size+1,0,none⟩)))
 (B1:Blk wx w.heap.size 352 (xX k)) (B2:Blk wx (w.heap.size+1) 3 #[.int .i64 y]) (L:Below w.heap.size w wx) (hr:FR=(k,y)):
 bodyPostD Tryz.prog Tryz.f344 (fun e w'=>e= .returned (FT FR)/\ Below w.heap.size w w') .ret { tmps:=tmps,defers:=Bf w.heap.size (w.heap.size+1) } wx:=by
 subst hr;exact UY tmps w.heap.size (w.heap.size+1) wx k y _ h4 h5 B1 B2 ⟨rfl,L⟩
theorem UZ:dY vN=vN:=by decide +kernel
end Go.Proofs.YtdmondfpepbniaaGreatDoor
