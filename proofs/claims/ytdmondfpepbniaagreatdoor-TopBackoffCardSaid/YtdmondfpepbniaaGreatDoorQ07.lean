/- Part 7 of the proof: Hd. -/
import Derived.Deep.RegionHeld3
import Derived.Test.YtdmondfpepbniaaGreatDoorQ05
import Derived.Test.YtdmondfpepbniaaGreatDoorQ06
namespace Go.Proofs.YtdmondfpepbniaaGreatDoor
open Go.RowKit
set_option maxRecDepth 100000
set_option maxHeartbeats 4000000
set_option linter.all false
def Di (b:UInt8):Bool:=decide (48<= b.toNat/\ b.toNat<= 57)
def kY:Bs:= [72,84,84,80,47]
def Gf (v:Bs):Option (UInt8×UInt8):=
 match v.drop 5 with
 | [a,d,b]=>if v.take 5=kY/\ d=46/\ Di a=true/\ Di b=true then some (a,b)else none
 |_=>none
def aU (s:Bs):Int×Bs×Tgt×Int:=
 match aS 32 s with
 | [m,t,v]=>
  if tkL m then
   (match Gf v with
    |none=>(400,[],bY,0)
    |some (a,b)=>
     if a=49 then
      (if(bT m t).2=0 then(0,m,(bT m t).1,if b=48 then 0 else 1)
       else if(bT m t).2=9 then(414,[],bY,0)else(400,[],bY,0))
     else(505,[],bY,0))
  else(400,[],bY,0)
 |_=>(400,[],bY,0)
structure HS where
 bJ:List Fd
 method:Bs
 tgt:Tgt
 minor:Int
 begun:Bool
 empty:Nat
 bytes:Nat
 how:How
 whole:Bool
 status:Int
deriving DecidableEq
def hs0:HS:=⟨[],[],bY,0,false,0,0,eU,false,0⟩
def jP (h:HS) (s:Bs):HS:=
 if h.whole=true\/ h.status≠0 then h
 else
  let b:=h.bytes+min s.length 257+2
  if 256<s.length\/ 1024<b then { h with bytes:=b,status:=if h.begun then 431 else 414 }
  else if h.begun=false then
   (if s= []then { h with bytes:=b,empty:=h.empty+1,status:=if 4<h.empty+1 then 400 else 0 }
    else if(aU s).1=0 then { h with bytes:=b,begun:=true,method:=(aU s).2.1,tgt:=(aU s).2.2.1,minor:=(aU s).2.2.2 }
    else { h with bytes:=b,status:=(aU s).1 })
  else if s= []then
   { h with bytes:=b,how:=(yV (decide (1<= h.minor)) h.bJ).1,status:=(yV (decide (1<= h.minor)) h.bJ).2,whole:=decide ((yV (decide (1<= h.minor)) h.bJ).2=0) }
  else
   match eX s with
   |none=> { h with bytes:=b,status:=400 }
   |some f=>if 24<= h.bJ.length then { h with bytes:=b,status:=431 } else { h with bytes:=b,bJ:=h.bJ++ [f] }
theorem Blk.c16 {w:World} {g:Nat} {t:TypeId} {a0 a1 a2 a3 a4 a5 a6 a7 a8 a9 a10 a11 a12 a13 a14 a15:Value} (h:Blk w g t #[a0,a1,a2,a3,a4,a5,a6,a7,a8,a9,a10,a11,a12,a13,a14,a15]):(w.cell? ⟨g,0,none⟩=some a0/\ w.cell? ⟨g,1,none⟩=some a1/\ w.cell? ⟨g,2,none⟩=some a2/\ w.cell? ⟨g,3,none⟩=some a3/\ w.cell? ⟨g,4,none⟩=some a4/\ w.cell? ⟨g,5,none⟩=some a5/\ w.cell? ⟨g,6,none⟩=some a6/\ w.cell? ⟨g,7,none⟩=some a7/\ w.cell? ⟨g,8,none⟩=some a8/\ w.cell? ⟨g,9,none⟩=some a9/\ w.cell? ⟨g,10,none⟩=some a10/\ w.cell? ⟨g,11,none⟩=some a11/\ w.cell? ⟨g,12,none⟩=some a12/\ w.cell? ⟨g,13,none⟩=some a13/\ w.cell? ⟨g,14,none⟩=some a14/\ w.cell? ⟨g,15,none⟩=some a15)/\ w.frozen? ⟨g,0,none⟩=false/\ w.frozen? ⟨g,1,none⟩=false/\ w.frozen? ⟨g,2,none⟩=false/\ w.frozen? ⟨g,3,none⟩=false/\ w.frozen? ⟨g,4,none⟩=false/\ w.frozen? ⟨g,5,none⟩=false/\ w.frozen? ⟨g,6,none⟩=false/\ w.frozen? ⟨g,7,none⟩=false/\ w.frozen? ⟨g,8,none⟩=false/\ w.frozen? ⟨g,9,none⟩=false/\ w.frozen? ⟨g,10,none⟩=false/\ w.frozen? ⟨g,11,none⟩=false/\ w.frozen? ⟨g,12,none⟩=false/\ w.frozen? ⟨g,13,none⟩=false/\ w.frozen? ⟨g,14,none⟩=false/\ w.frozen? ⟨g,15,none⟩=false:=
 ⟨⟨h.cell 0,h.cell 1,h.cell 2,h.cell 3,h.cell 4,h.cell 5,h.cell 6,h.cell 7,h.cell 8,h.cell 9,h.cell 10,h.cell 11,h.cell 12,h.cell 13,h.cell 14,h.cell 15⟩,h.frozen 0,h.frozen 1,h.frozen 2,h.frozen 3,h.frozen 4,h.frozen 5,h.frozen 6,h.frozen 7,h.frozen 8,h.frozen 9,h.frozen 10,h.frozen 11,h.frozen 12,h.frozen 13,h.frozen 14,h.frozen 15⟩
def bn (h:HS) (pf:Nat):Array Value:=#[.pointer (some ⟨pf,0,none⟩),sv h.method,.int .i64 h.tgt.form,sv h.tgt.host,sv h.tgt.path,sv h.tgt.query,.int .i64 h.minor,.bool h.begun,.int .i64 h.empty,.int .i64 h.bytes,.int .i64 h.how.kind,.int .i64 h.how.len,.bool h.how.close,.bool h.how.expect,.bool h.whole,.int .i64 h.status]
structure HK (w:World) (g pf:Nat) (v:Value) (h:HS):Prop where
 blk:Blk w g 356 (bn h pf)
 fa:FA w 347 pf 0 v h.bJ
 ne:g≠pf
 no:v.ownBlock≠some g
def HR (w:World) (g:Nat) (S:Nat-> Prop) (h:HS):Prop:= ∃pf v,S=(fun k=>k=g\/ FS pf v k)/\ HK w g pf v h
theorem HK.fr {w w':World} {g pf:Nat} {v:Value} {h:HS} {T:Nat-> Prop} (k:HK w g pf v h) (hf:Fr T w w') (hs: ∀i,(i=g\/ FS pf v i)-> ¬T i):HK w' g pf v h:=
 ⟨k.blk.fr hf (hs g (.inl rfl)),k.fa.fr hf (hs pf (.inr (.inl rfl))) (fun i hi=>hs i (.inr (.inr hi))),k.ne,k.no⟩
theorem HK.ah {w w':World} {g pf:Nat} {v:Value} {h:HS} (k:HK w g pf v h) (hb:Below w.heap.size w w'):HK w' g pf v h:=
 ⟨k.blk.ah hb,k.fa.ah hb,k.ne,k.no⟩
theorem HR.ah {w w':World} {g:Nat} {S:Nat-> Prop} {h:HS} (k:HR w g S h) (hb:Below w.heap.size w w'):HR w' g S h:=by
 obtain⟨pf,v,e,k⟩:=k;exact⟨pf,v,e,k.ah hb⟩
theorem HR.fr {w w':World} {g:Nat} {S T:Nat-> Prop} {h:HS} (k:HR w g S h) (hf:Fr T w w') (hs: ∀i,S i-> ¬T i):HR w' g S h:=by
 obtain⟨pf,v,rfl,k⟩:=k;exact⟨pf,v,rfl,k.fr hf hs⟩
theorem HR.lt {w:World} {g:Nat} {S:Nat-> Prop} {h:HS} (k:HR w g S h) {i:Nat} (hi:S i):i<w.heap.size:=by
 obtain⟨pf,v,rfl,k⟩:=k;rcases hi with rfl|rfl|hi
 ·exact k.blk.lt
 ·exact k.fa.blk.lt
 ·exact Own.lt2 k.fa.own hi
theorem IX (g:Nat) (S:Nat-> Prop) (h:HS) (w:World) (k:HR w g S h):
 Calls Tryz.prog 288 #[.pointer (some ⟨g,0,none⟩)] w fun e w'=>e= .returned (.tuple #[sv h.method,lF h.tgt,.int .i64 h.minor])/\ Below w.heap.size w w':=by
 obtain⟨pf,v,rfl,k⟩:=k;have hb:=k.blk;unfold bn at hb;have LV:Below w.heap.size w (w.alloc (.cells #[.int .i64 0,.string ⟨#[]⟩,.string ⟨#[]⟩,.string ⟨#[]⟩] 314)):=aj (Below.refl _ _) _;have BV:Blk (w.alloc (.cells #[.int .i64 0,.string ⟨#[]⟩,.string ⟨#[]⟩,.string ⟨#[]⟩] 314)) w.heap.size 314 #[.int .i64 0,.string ⟨#[]⟩,.string ⟨#[]⟩,.string ⟨#[]⟩]:=Blk.new' _ _ rfl _ _;have hb:=hb.alloc (.cells #[.int .i64 0,.string ⟨#[]⟩,.string ⟨#[]⟩,.string ⟨#[]⟩] 314);clear k;go_enter Tryz.func288,Tryz.ntmps288
 go_wp2_with fail
 obtain⟨V,hV⟩: ∃V,V=w.alloc (.cells #[.int .i64 0,.string ⟨#[]⟩,.string ⟨#[]⟩,.string ⟨#[]⟩] 314):=⟨_,rfl⟩;rw[<- hV]at LV BV hb⊢;obtain⟨g2,hg2⟩: ∃g2,g2=w.heap.size:=⟨_,rfl⟩;rw[<- hg2]at BV⊢;have hgw:w.heap.size<= g2:=by omega
 clear hV hg2;obtain⟨⟨j0,j1,j2,j3,j4,j5,j6,j7,j8,j9,j10,j11,j12,j13,j14,j15⟩,i0,i1,i2,i3,i4,i5,i6,i7,i8,i9,i10,i11,i12,i13,i14,i15⟩:=Blk.c16 hb;obtain⟨k0,k1,k2,k3,l0,l1,l2,l3⟩:=BV.c4;clear hb BV j0 j7 j8 j9 j10 j11 j12 j13 j14 j15 i0 i7 i8 i9 i10 i11 i12 i13 i14 i15;go_region
 go_wp2
 refine bodyPost_ret (v:=.tuple #[sv h.method,lF h.tgt,.int .i64 h.minor]) (by simp[results,Tryz.results288,go_sem,k0,k1,k2,k3]) rfl ⟨rfl,?_⟩
 refine Below.drew ?_;repeat refine setW ?_ hgw _
 exact LV
theorem Lc (g:Nat) (S:Nat-> Prop) (h:HS) (w:World) (k:HR w g S h):
 Calls Tryz.prog 286 #[.pointer (some ⟨g,0,none⟩)] w fun e w'=>e= .returned (IG h.how)/\ Below w.heap.size w w':=by
 obtain⟨pf,v,rfl,k⟩:=k;have hb:=k.blk;unfold bn at hb;have LV:Below w.heap.size w (w.alloc (.cells #[.int .i64 0,.int .i64 0,.bool false,.bool false] 352)):=aj (Below.refl _ _) _;have BV:Blk (w.alloc (.cells #[.int .i64 0,.int .i64 0,.bool false,.bool false] 352)) w.heap.size 352 #[.int .i64 0,.int .i64 0,.bool false,.bool false]:=Blk.new' _ _ rfl _ _;have hb:=hb.alloc (.cells #[.int .i64 0,.int .i64 0,.bool false,.bool false] 352);obtain⟨⟨j0,j1,j2,j3,j4,j5,j6,j7,j8,j9,j10,j11,j12,j13,j14,j15⟩,i0,i1,i2,i3,i4,i5,i6,i7,i8,i9,i10,i11,i12,i13,i14,i15⟩:=Blk.c16 hb;obtain⟨k0,k1,k2,k3,l0,l1,l2,l3⟩:=BV.c4;clear hb k BV j0 j1 j2 j3 j4 j5 j6 j7 j8 j9 j14 j15 i0 i1 i2 i3 i4 i5 i6 i7 i8 i9 i14 i15;go_enter Tryz.func286,Tryz.ntmps286
 go_wp2_with fail
 refine bodyPost_ret (v:=IG h.how) (by simp[results,Tryz.results286,go_sem]) rfl ⟨rfl,?_⟩
 exact aj (Below.refl _ _) _
theorem oK (b:UInt8) (w:World):
 Calls Tryz.prog 361 #[.int .u8 (b.toNat:Int)] w fun e w'=>e= .returned (.bool (Di b))/\ w=w':=by
 have HR:=Lib.hid (show Di b=decide (48<= b.toNat/\ b.toNat<= 57)from rfl)
 by_cases h1:48<= b.toNat
 ·by_cases h2:b.toNat<= 57
  ·go_enter Tryz.func361,Tryz.ntmps361
   go_wp2
   go_ret
   exact⟨fO (by rw[HR.out];simp[h1,h2];omega),rfl⟩
  ·go_enter Tryz.func361,Tryz.ntmps361
   go_wp2
   go_ret
   exact⟨fO (by rw[HR.out];simp[h2];omega),rfl⟩
 ·go_enter Tryz.func361,Tryz.ntmps361
  go_wp2
  go_ret
  exact⟨fO (by rw[HR.out];simp[h1]),rfl⟩
theorem PE (A:Option Addr) (c:Nat) (l:List Fd) (w:World) (h:Rd w w.heap.size 2 A l.length (aQ l)) (hl:l.length<= 100000):
 Calls Tryz.prog 312 #[.slice A l.length c] w fun e w'=>(∃v,e= .returned v/\ OF w' w.heap.size v l)/\ Below w.heap.size w w':=by
 cases A with
 |none=>
  have h0:l.length=0:=by
   rcases Nat.eq_zero_or_pos l.length with h0|h0
   ·exact h0
   ·obtain⟨b,o,e,-⟩:=h.2 h0;cases e
  obtain rfl:l= []:=List.eq_nil_of_length_eq_zero h0;have hq: ∀(w:World),(binOp .eql 52 (.slice none 0 c) (.slice none 0 0)).run Tryz.prog w= .ok (.bool true) w:=fun w=>by kernel_rfl
  go_enter Tryz.func312,Tryz.ntmps312
  go_wp2
  go_ret
  exact⟨⟨_,rfl,OF.nil _ _⟩,Below.refl _ _⟩
 |some a=>
  have hq: ∀(w:World),(binOp .eql 52 (.slice (some a) l.length c) (.slice none 0 0)).run Tryz.prog w= .ok (.bool false) w:=fun w=>by kernel_rfl
  go_enter Tryz.func312,Tryz.ntmps312
  have hown0:OF (w.alloc (.cells #[] 86)) w.heap.size (.slice (some ⟨w.heap.size,0,none⟩) 0 0) []:=Own.lit w _ rfl _ (Nat.le_refl _) _ 2 0 [] rfl (by decide)
  have LA:=aj (Below.refl w.heap.size w) (.cells #[] 86);go_wp2_with (at_builtin;refine XU rfl _ _ rfl w.heap.size (.slice (some ⟨w.heap.size,0,none⟩) 0 0) [] rfl hown0 (Below.refl _ _) (some a) l.length c _ rfl l rfl (h.alloc (Nat.le_refl _) _) (by simp;omega) LA.size ?_;intro v' w2 ho2 hx)
  go_ret
  exact⟨⟨_,rfl,by simpa using ho2⟩,LA.trans (hx.below hown0 (Nat.le_refl _) LA.size)⟩
theorem Yf (g:Nat) (l:List Fd) (w:World) (hF:FR w 347 g l) (hl:l.length<= 100000):
 Calls Tryz.prog 287 #[.pointer (some ⟨g,0,none⟩)] w fun e w'=>(∃v,e= .returned v/\ OF w' w.heap.size v l)/\ Below w.heap.size w w':=by
 obtain⟨A,c,hB,hc,hA⟩:=hF;obtain⟨j0,i0⟩:=hB.c1;go_enter Tryz.func287,Tryz.ntmps287
 go_wp2_with fail
 refine(PE A c l w hA hl).mono ?_;rintro e w1 ⟨⟨v,rfl,ho⟩,L⟩;go_wp2
 go_ret
 exact⟨⟨_,rfl,ho⟩,L⟩
theorem Z7 (w:World):
 Calls Tryz.prog 306 #[] w fun e w'=>(∃g S,e= .returned (.pointer (some ⟨g,0,none⟩))/\ HR w' g S hs0/\ (∀i,S i-> w.heap.size<= i))/\ Below w.heap.size w w':=by
 go_enter Tryz.func306,Tryz.ntmps306
 go_wp2_with fail
 refine(TU 0 0 none [] w (Rd.nil _ _ _ _) (fun f hf=>by cases hf) (by decide)).mono ?_
 rintro e w1 ⟨⟨pf,v,rfl,hF⟩,L⟩;go_wp2
 go_ret
 have hno:v.ownBlock≠some w1.heap.size:=fun h=>Nat.lt_irrefl _ (Own.lt2 hF.own h)
 have hne:w1.heap.size≠pf:=fun h=>Nat.lt_irrefl _ (h▸hF.blk.lt)
 refine⟨⟨_,_,rfl,⟨pf,v,rfl,⟨Blk.new' _ _ rfl _ _,⟨hF.blk.alloc _,Own.vC (Own.alloc hF.own _) (Nat.zero_le _),Nat.zero_le _,hF.ne⟩,hne,hno⟩⟩,fun i hi=> ?_⟩,aj L _⟩
 rcases hi with rfl|rfl|hi
 ·exact L.size
 ·exact hF.lo
 ·exact(hF.own.lt i hi).1
theorem DY (s:Bs) (f:Fd) (h:eX s=some f):isF f=true/\ f.1.length<= 256/\ f.2.length<= 256:=by
 rw[eX]at h;split at h
 ·cases h
 ·rename_i hl
  split at h
  ·simp only at h
   split at h
   ·rename_i hi
    injection h with h
    subst h;refine⟨hi,?_,?_⟩
    ·exact Nat.le_trans (List.takeWhile_sublist _).length_le (by omega)
    ·refine Nat.le_trans (IK _) (Nat.le_trans ?_ (show s.length<= 256 by omega))
     have h1:=(List.dropWhile_sublist (l:=s) (· != 58)).length_le
     rw[List.length_tail];omega
   ·cases h
  ·cases h
def adL (l:List Fd) (s:Bs):Int×List Fd:=
 match eX s with
 |none=>(400,l)
 |some f=>if 24<= l.length then(431,l)else(0,l++ [f])
def IY (w:World) (g pf:Nat) (v:Value) (h:HS) (r:Int×List Fd) (e:Ending) (w':World):Prop:=
 e= .returned (.int .i64 r.1)/\ ∃v',HK w' g pf v' { h with bJ:=r.2 } /\ (∀k,v'.ownBlock=some k-> v.ownBlock=some k\/ w.heap.size<= k)/\ Fr (FS pf v) w w'
theorem HK.bJ {w w':World} {g pf:Nat} {v v':Value} {h:HS} {l:List Fd} (k:HK w g pf v h) (ha:FA w' 347 pf 0 v' l) (hv: ∀k,v'.ownBlock=some k-> v.ownBlock=some k\/ w.heap.size<= k) (hf:Fr (FS pf v) w w'):HK w' g pf v' { h with bJ:=l } :=
 ⟨k.blk.fr hf (fun hi=>hi.elim k.ne k.no),ha,k.ne,fun h1=>by
   rcases hv g h1 with h2|h2
   ·exact k.no h2
   ·have:=k.blk.lt;omega⟩
theorem Yg (g pf:Nat) (v:Value) (h:HS) (s:ByteArray) (w:World) (k:HK w g pf v h) (hl:h.bJ.length<= 24) (hm:ML w):
 Calls Tryz.prog 345 #[.pointer (some ⟨g,0,none⟩),.string s] w (IY w g pf v h (adL h.bJ s.data.toList)):=by
 have j0:w.cell? ⟨g,0,none⟩=some (.pointer (some ⟨pf,0,none⟩)):=k.blk.cell 0;have hgl:=k.blk.lt;have hg:=k.ne;go_enter Tryz.func345,Tryz.ntmps345
 go_wp2_with fail
 refine(Aj s w hm).mono ?_;rintro e w1 ⟨⟨N,M,er,rfl,hP⟩,L1⟩;rcases hP with⟨hP,rfl⟩| ⟨hP,her⟩
 ·obtain⟨hi,z1,z2⟩:=DY _ _ hP
  have HR:=Lib.hid (show adL h.bJ s.data.toList=if 24<= h.bJ.length then(431,h.bJ)else(0,h.bJ++ [(N.data.toList,M.data.toList)]) by rw[adL,hP])
  have k1:=k.ah L1;have j1:w1.cell? ⟨g,0,none⟩=some (.pointer (some ⟨pf,0,none⟩)):=k1.blk.cell 0;clear hP j0;obtain⟨V,hV⟩: ∃V,V=w1.alloc (.cells #[.string N,.string M] 86):=⟨_,rfl⟩;have BV:Blk V w1.heap.size 86 #[.string N,.string M]:=by rw[hV];exact Blk.new' _ _ rfl _ _
  have LV:Below w1.heap.size w1 V:=by rw[hV];exact aj (Below.refl _ _) _
  have kV:=k1.ah LV;have hq1:pf≠w1.heap.size:=fun h1=>Nat.lt_irrefl _ (h1▸k1.fa.blk.lt)
  have hq2:v.ownBlock≠some w1.heap.size:=fun h1=>Nat.lt_irrefl _ (Own.lt2 k1.fa.own h1)
  have jV:V.cell? ⟨g,0,none⟩=some (.pointer (some ⟨pf,0,none⟩)):=kV.blk.cell 0;have L2:=stepW L1 LV;go_wp2_with fail
  rw[<- hV];obtain⟨q,hq⟩: ∃q,q=w1.heap.size:=⟨_,rfl⟩;rw[<- hq]at BV hq1 hq2⊢;clear hV j1 k1 LV L1 hq;obtain⟨x0,x1,y0,y1⟩:=BV.c2;have hqV:=BV.lt;have hgV:=kV.blk.lt;have hkn:=k.no;obtain⟨W3,hW3⟩: ∃W3,W3=(V.alloc (.cells #[.string N,.string M] 86)).drew:=⟨_,rfl⟩;have L3:Below V.heap.size V W3:=by rw[hW3];exact(aj (Below.refl V.heap.size V) _).drew
  have hr3:Rd W3 (V.heap.size+1) 2 (some ⟨V.heap.size,0,none⟩) 1 (aQ [(N.data.toList,M.data.toList)]):=by
   rw[hW3];exact(Rd.XZ V _ rfl (aQ [(N.data.toList,M.data.toList)]) _ _ 1 2 rfl).below ((Below.refl _ _).drew)
  have hs3:V.heap.size+1<= W3.heap.size:=by rw[hW3];simp
  have hne3:0<1-> ∀a,(some ⟨V.heap.size,0,none⟩:Option Addr)=some a-> ¬FS pf v a.block:=fun _ a ha hs=>by
   injection ha with ha
   subst ha;rcases hs with h1|h1
   ·have h1:V.heap.size=pf:=h1
    have:=kV.fa.blk.lt;omega
   ·exact Nat.lt_irrefl _ (Own.lt2 kV.fa.own (show v.ownBlock=some V.heap.size from h1))
  have k3:=kV.ah L3;have hC:=FX pf 0 1 1 _ _ v h.bJ [(N.data.toList,M.data.toList)] W3 k3.fa hr3 hs3 hne3 (fun f hf=>by rw[List.mem_singleton]at hf;subst hf;exact⟨Nat.le_trans z1 (by decide),Nat.le_trans z2 (by decide)⟩) hl (Nat.zero_le _) (by decide)
  have L4:=stepW L2 L3;have hg3:g<W3.heap.size:=k3.blk.lt;have hq3:q<W3.heap.size:=Nat.lt_of_lt_of_le hqV L3.size;have c0:W3.cell? ⟨g,0,none⟩=some (.pointer (some ⟨pf,0,none⟩)):=k3.blk.cell 0;have c1:W3.cell? ⟨q,0,none⟩=some (.string N):=(L3.cell (p:=⟨q,0,none⟩) hqV).trans x0;have c2:W3.cell? ⟨q,1,none⟩=some (.string M):=(L3.cell (p:=⟨q,1,none⟩) hqV).trans x1;by_cases h24:24<= h.bJ.length
  ·rw[xI _ _ _ _ hi h24]at hC
   rw[if_pos h24]at HR;unfold vO TR at hC;rw[hW3]at hC;go_region_held3 (fun w'=>w'.cell? ⟨g,0,none⟩=some (.pointer (some ⟨pf,0,none⟩))/\ w'.cell? ⟨q,0,none⟩=some (.string N)/\ w'.cell? ⟨q,1,none⟩=some (.string M))
    (first|go_keep|exact S4)
    (first
      | (go_at_call 244
         refine hC.mono ?_;rintro e w4 ⟨rfl,⟨v',hF4,hv4⟩,hfr⟩;rw[<- hW3]at hfr hv4
         have S4:w4.cell? ⟨g,0,none⟩=some (.pointer (some ⟨pf,0,none⟩))/\ w4.cell? ⟨q,0,none⟩=some (.string N)/\ w4.cell? ⟨q,1,none⟩=some (.string M):=⟨(hfr.cell (p:=⟨g,0,none⟩) hg3 (fun h1=>h1.elim hg hkn)).trans c0,(hfr.cell (p:=⟨q,0,none⟩) hq3 (fun h1=>h1.elim (fun h2=>hq1 h2.symm) hq2)).trans c1,(hfr.cell (p:=⟨q,1,none⟩) hq3 (fun h1=>h1.elim (fun h2=>hq1 h2.symm) hq2)).trans c2⟩))
   go_wp2
   go_ret
   exact⟨by rw[HR.out];rfl,v',by rw[HR.out];exact k3.bJ hF4 hv4 hfr,fun i h1=>(hv4 i h1).imp id fun h2=>Nat.le_trans L4.size h2,((Fr.refl _ w).ah L4).trans hfr fun i h1=>.inl h1⟩
  ·rw[zZ _ _ _ _ hi (by omega),TI]at hC
   rw[if_neg h24]at HR;unfold vO TR at hC;rw[hW3]at hC;go_region_held3 (fun w'=>w'.cell? ⟨g,0,none⟩=some (.pointer (some ⟨pf,0,none⟩))/\ w'.cell? ⟨q,0,none⟩=some (.string N)/\ w'.cell? ⟨q,1,none⟩=some (.string M))
    (first|go_keep|exact S4)
    (first
      | (go_at_call 244
         refine hC.mono ?_;rintro e w4 ⟨rfl,⟨v',hF4,hv4⟩,hfr⟩;rw[<- hW3]at hfr hv4
         have S4:w4.cell? ⟨g,0,none⟩=some (.pointer (some ⟨pf,0,none⟩))/\ w4.cell? ⟨q,0,none⟩=some (.string N)/\ w4.cell? ⟨q,1,none⟩=some (.string M):=⟨(hfr.cell (p:=⟨g,0,none⟩) hg3 (fun h1=>h1.elim hg hkn)).trans c0,(hfr.cell (p:=⟨q,0,none⟩) hq3 (fun h1=>h1.elim (fun h2=>hq1 h2.symm) hq2)).trans c1,(hfr.cell (p:=⟨q,1,none⟩) hq3 (fun h1=>h1.elim (fun h2=>hq1 h2.symm) hq2)).trans c2⟩))
   go_wp2
   go_ret
   exact⟨by rw[HR.out];rfl,v',by rw[HR.out];exact k3.bJ hF4 hv4 hfr,fun i h1=>(hv4 i h1).imp id fun h2=>Nat.le_trans L4.size h2,((Fr.refl _ w).ah L4).trans hfr fun i h1=>.inl h1⟩
 ·have HR:=Lib.hid (show adL h.bJ s.data.toList=(400,h.bJ) by rw[adL,hP])
  have L2:=L1.alloc (L1.size) (.cells #[.string N,.string M] 86);rcases her with rfl|rfl;all_goals
   go_wp2
   go_ret
   exact⟨by rw[HR.out];rfl,v,by rw[HR.out];exact k.ah L2,fun k h1=>.inl h1,(Fr.refl _ w).ah L2⟩
theorem IZ (v:Bs) (h:Lib.hasPrefix v kY=true):v.take 5=kY/\ Lib.trimPrefix v kY=v.drop 5:=by
 have h1:kY <+: v:=by
  rw[<- List.isPrefixOf_iff_prefix];exact h
 obtain⟨t,rfl⟩:=h1;refine⟨rfl,?_⟩;unfold Lib.trimPrefix;rw[if_pos h];rfl
theorem Ug (v:Bs) (h:Lib.hasPrefix v kY=false):v.take 5≠kY:=by
 intro h1;have h2:kY <+: v:=by rw[<- h1];exact List.take_prefix _ _
 rw[<- List.isPrefixOf_iff_prefix]at h2;have h3:Lib.hasPrefix v kY=true:=h2;rw[h]at h3;cases h3
theorem Yh (v:Bs) (h:Lib.hasPrefix v kY=false):Gf v=none:=by
 have h1:=Ug v h;unfold Gf;split
 ·rw[if_neg (fun h2=>h1 h2.1)]
 ·rfl
theorem Uh (v:Bs) (h:(v.drop 5).length≠3):Gf v=none:=by
 unfold Gf;split
 ·rename_i a d b hv;rw[hv]at h;exact absurd rfl h
 ·rfl
theorem AA (v:Bs) (a d b:UInt8) (h:v.take 5=kY) (hv:v.drop 5= [a,d,b]):Gf v=if d=46/\ Di a=true/\ Di b=true then some (a,b)else none:=by
 unfold Gf;rw[hv];simp only[h,true_and]
theorem Ui (u:Bs) (h:u.length=3): ∃a d b,u= [a,d,b]:=by
 match u,h with
 | [a,d,b],_=>exact⟨a,d,b,rfl⟩
def stH (h:HS) (s:Bs):HS:=if(aU s).1=0 then { h with begun:=true,method:=(aU s).2.1,tgt:=(aU s).2.2.1,minor:=(aU s).2.2.2 } else h
def uH (w:World) (g pf:Nat) (h:HS) (s:Bs) (e:Ending) (w':World):Prop:=
 e= .returned (.int .i64 (aU s).1)/\ Blk w' g 356 (bn (stH h s) pf)/\ Fr (fun k=>k=g) w w'
theorem fM {w w':World} {g pf:Nat} {h:HS} {s:Bs} {st:Int} (hb:Blk w g 356 (bn h pf)) (L:Below w.heap.size w w') (hs:aU s=(st,[],bY,0)) (h0:st≠0):uH w g pf h s (.returned (.int .i64 st)) w':=by
 refine⟨by rw[hs],?_,(Fr.refl _ w).ah L⟩
 rw[stH,hs,if_neg h0];exact hb.ah L
theorem Uj (s:Bs) (h:(aS 32 s).length≠3):aU s=(400,[],bY,0):=by
 unfold aU;split
 ·rename_i m t v hv;rw[hv]at h;exact absurd rfl h
 ·rfl
theorem I4 (s m t v:Bs) (h:aS 32 s= [m,t,v]):aU s=((if tkL m then
 (match Gf v with
  |none=>(400,[],bY,0)
  |some (a,b)=>
   if a=49 then
    (if(bT m t).2=0 then(0,m,(bT m t).1,if b=48 then 0 else 1)
     else if(bT m t).2=9 then(414,[],bY,0)else(400,[],bY,0))
   else(505,[],bY,0))
 else(400,[],bY,0)):Int×Bs×Tgt×Int):=by
 unfold aU;rw[h]<;>dsimp only<;>(generalize Gf v=o;cases o<;>rfl)
theorem kZ (c:UInt8): ∀(l:Bs) (p:Bs),p∈aS c l-> p.length<= l.length
 | [],p,h=>by simp[aS]at h;simp[h]
 |b::l,p,h=>by
  rw[aS]at h;split at h
  ·rcases List.mem_cons.1 h with rfl|h
   ·simp
   ·have:=kZ c l p h;simp;omega
  ·obtain⟨q,ps,h1⟩:=List.exists_cons_of_ne_nil (qZ c l)
   rw[h1]at h;rcases List.mem_cons.1 h with rfl|h
   ·have:=kZ c l q (by rw[h1];simp)
    simp;omega
   ·have:=kZ c l p (by rw[h1];simp[h])
    simp;omega
theorem cells3 {w:World} {g:Nat} {m t v:Bs} (h:Rd w w.heap.size 1 (some ⟨g,0,none⟩) 3 ([m,t,v].map tv)):
 w.cell? ⟨g,0,none⟩=some (sv m)/\ w.cell? ⟨g,1,none⟩=some (sv t)/\ w.cell? ⟨g,2,none⟩=some (sv v):=by
 obtain⟨b,o,e,-,hx⟩:=h.2 (by omega)
 injection e with e
 injection e with e1 e2
 subst e1 e2;exact⟨hx 0 _ rfl,hx 1 _ rfl,hx 2 _ rfl⟩
theorem Uk {c d:UInt8} (h:c≠d) {n:Int} (hn:(d.toNat:Int)=n):((c.toNat:Int)==n)=false:=by
 rw[Bool.eq_false_iff];intro h2;rw[beq_iff_eq]at h2;exact h (Ic (by omega))
theorem Rd.lt0 {w:World} {B g n size:Nat} {xs:List Value} (h:Rd w B size (some ⟨g,0,none⟩) (n+1) xs):g<B:=by
 obtain⟨b,o,e,hb,-⟩:=h.2 (by omega)
 injection e with e
 injection e with e1 e2
 omega
theorem Blk.set4 {w:World} {g:Nat} {T:TypeId} {a0 a1 a2 a3:Value} (h:Blk w g T #[a0,a1,a2,a3]) (b0 b1 b2 b3:Value):Blk ((((w.setCell ⟨g,0,none⟩ b0).setCell ⟨g,1,none⟩ b1).setCell ⟨g,2,none⟩ b2).setCell ⟨g,3,none⟩ b3) g T #[b0,b1,b2,b3]:=
 (((h.ay 0 b0).ay 1 b1).ay 2 b2).ay 3 b3
theorem Lh {n g:Nat} {W w:World} (h:Below n W w) (hg:n<= g) (b0 b1 b2 b3:Value):Below n W ((((w.setCell ⟨g,0,none⟩ b0).setCell ⟨g,1,none⟩ b1).setCell ⟨g,2,none⟩ b2).setCell ⟨g,3,none⟩ b3):=
 (((h.setCell hg b0).setCell hg b1).setCell hg b2).setCell hg b3
theorem PG {w:World} {g k:Nat} {b0 b1 b2 b3:Value} (h: ¬k=g) {i:Nat} :((((w.setCell ⟨g,0,none⟩ b0).setCell ⟨g,1,none⟩ b1).setCell ⟨g,2,none⟩ b2).setCell ⟨g,3,none⟩ b3).cell? ⟨k,i,none⟩=w.cell? ⟨k,i,none⟩:=by
 have hh: ∀(w:World) (j:Nat) (u:Value),(w.setCell ⟨g,j,none⟩ u).heap[k]? = w.heap[k]? := fun w j u=>Below.heap_setCell w ⟨g,j,none⟩ u k h
 exact World.cell?_of_block (by rw[hh,hh,hh,hh])
theorem Gg (h:HS) (pf:Nat) (m:Bs) (T:Tgt) (n:Int):(((((((bn h pf).setIfInBounds 7 (.bool true)).setIfInBounds 1 (sv m)).setIfInBounds 2 (.int .i64 T.form)).setIfInBounds 3 (sv T.host)).setIfInBounds 4 (sv T.path)).setIfInBounds 5 (sv T.query)).setIfInBounds 6 (.int .i64 n)=bn { h with begun:=true,method:=m,tgt:=T,minor:=n } pf:=by
 simp[bn]
theorem Gh (h:HS) (pf:Nat) (n:Int):(bn h pf).setIfInBounds 6 (.int .i64 n)=bn { h with minor:=n } pf:=by
 simp[bn]
theorem Gi (g pf:Nat) (h:HS) (s:ByteArray) (w:World) (hb:Blk w g 356 (bn h pf)) (hs:s.size<= 1000) (hm:ML w) (m t v:Bs) (b:UInt8) (hL:aS 32 s.data.toList= [m,t,v]) (t1:tkL m=true) (p1:Lib.hasPrefix v kY=true) (hu:v.drop 5= [49,46,b]) (db:Di b=true):
 Calls Tryz.prog 343 #[.pointer (some ⟨g,0,none⟩),.string s] w (uH w g pf h s.data.toList):=by
 have hS:=oI s 32 w (by omega) hm
 rw[hL]at hS;have HM:=Lib.hid (I4 _ _ _ _ hL);have hz: ∀p∈aS 32 s.data.toList,p.length<= s.size:=fun p hp=>by rw[<- au];exact kZ _ _ _ hp
 rw[hL]at hz;have z1:=hz m (by simp)
 have z2:=hz t (by simp)
 have z3:=hz v (by simp)
 clear hz hL;have hT:=fun w=>gG ⟨m.toArray⟩ w (by show m.length<= _;unfold maxLen;omega)
 rw[show(⟨m.toArray⟩:ByteArray).data.toList=m from rfl,show(allT m&&decide (0<m.length))=tkL m from rfl]at hT
 have hP:=fun w=>Tryz.strings_CutPrefix ⟨v.toArray⟩ ⟨#[72,84,84,80,47]⟩ w
 rw[show(⟨v.toArray⟩:ByteArray).data.toList=v from rfl,show(⟨#[72,84,84,80,47]⟩:ByteArray).data.toList=kY from rfl]at hP
 have HM2:=Lib.hid (HM.out.trans (if_pos t1));rw[t1]at hT;obtain⟨q1,q2⟩:=IZ v p1;rw[p1,q2,hu]at hP;have HV:=Lib.hid (AA v 49 46 b q1 hu);clear t1 HM p1 q1 q2 hu;obtain⟨U,hU⟩: ∃U:ByteArray,U=⟨[49,46,b].toArray⟩:=⟨_,rfl⟩;rw[<- hU]at hP;have us:U.size=3:=by rw[hU];rfl
 have e0:U[0]'(by omega)=49:=by subst hU;rfl
 have e1:U[1]'(by omega)=46:=by subst hU;rfl
 have e2:U[2]'(by omega)=b:=by subst hU;rfl
 have hDa:=fun w=>oK 49 w
 have hDb:=fun w=>oK b w
 clear hU;have da:Di 49=true:=by decide
 rw[da]at hDa;rw[db]at hDb;have hv2:=HV.out.trans (if_pos ⟨rfl,da,db⟩);have HM3:=Lib.hid (show aU s.data.toList=(if(bT m t).2=0 then(0,m,(bT m t).1,if b=48 then 0 else 1)else if(bT m t).2=9 then(414,[],bY,0)else(400,[],bY,0):Int×Bs×Tgt×Int) by rw[HM2.out,hv2];rfl)
 clear HM2 HV da db hv2;go_enter Tryz.func343,Tryz.ntmps343
 go_wp2_with fail
 refine hS.mono ?_;rintro e w1 ⟨rfl,hr,L1⟩;obtain⟨x0,x1,x2⟩:=cells3 hr;go_wp2_with fail
 refine(hT _).mono ?_;rintro e w2 ⟨rfl,rfl⟩;go_wp2_with fail
 refine(hP _).mono ?_;rintro e w3 ⟨rfl,rfl⟩;go_wp2_with fail
 refine(hDa _).mono ?_;rintro e w4 ⟨rfl,rfl⟩;go_wp2_with fail
 refine(hDb _).mono ?_;rintro e w4 ⟨rfl,rfl⟩;have hTP:=fun w hm=>PD ⟨m.toArray⟩ ⟨t.toArray⟩ w (by show t.length<_;omega) hm
 rw[show(⟨m.toArray⟩:ByteArray).data.toList=m from rfl,show(⟨t.toArray⟩:ByteArray).data.toList=t from rfl]at hTP
 generalize bT m t=PT at hTP HM3;obtain⟨T,er⟩:=PT;simp only[F6]at hTP HM3;have o0:(.cells #[.int .i64 0,.string ⟨#[]⟩,.string ⟨#[]⟩,.string ⟨#[]⟩] 314:Obj)= .cells #[.int .i64 0,.string ⟨#[]⟩,.string ⟨#[]⟩,.string ⟨#[]⟩] 314:=rfl;have BV:Blk (w3.alloc (.cells #[.int .i64 0,.string ⟨#[]⟩,.string ⟨#[]⟩,.string ⟨#[]⟩] 314)).drew w3.heap.size 314 #[.int .i64 0,.string ⟨#[]⟩,.string ⟨#[]⟩,.string ⟨#[]⟩]:=(Blk.new' _ _ rfl _ _).ah ((Below.refl _ _).drew);have LV:Below w3.heap.size w3 (w3.alloc (.cells #[.int .i64 0,.string ⟨#[]⟩,.string ⟨#[]⟩,.string ⟨#[]⟩] 314)).drew:=(aj (Below.refl w3.heap.size w3) _).drew;have L3:=stepW L1 LV;have hm3:=hm.below L3 (Nat.le_refl _);have M3:=L1.drew;have hn3:=hm.below M3 (Nat.le_refl _);have hp0:=hr.lt0;have v0:=(LV.cell (p:=⟨w.heap.size,0,none⟩) hp0).trans x0;have v1:=(LV.cell (p:=⟨w.heap.size,1,none⟩) hp0).trans x1;have hpV:=Nat.lt_of_lt_of_le hp0 LV.size;have hnw: ¬w.heap.size=w3.heap.size:=by omega
 have hnw2: ¬w3.heap.size=w.heap.size:=by omega
 clear o0 hr hS hT hP x2;go_upto_region 9 with(fail)
 go_cut [8,9] (fun v8 v9 wx=> ∃tb,v8= .pointer (some ⟨tb,0,none⟩)/\ v9= .int .i64 er/\ Blk wx tb 314 #[.int .i64 T.form,sv T.host,sv T.path,sv T.query]/\ w.heap.size<tb/\ Below w.heap.size w wx/\ wx.cell? ⟨w.heap.size,0,none⟩=some (sv m))
 case first=>
  go_region_held3 (fun w'=>w'.cell? ⟨w.heap.size,0,none⟩=some (sv m)/\ w'.cell? ⟨w.heap.size,1,none⟩=some (sv t))
   (first|go_keep|exact S5)
   (first
     | (go_at_call 362
        refine(hTP _ hm3).mono ?_;rintro e w5 ⟨rfl,L5⟩;have L5':=stepW L3 L5;have S5:w5.cell? ⟨w.heap.size,0,none⟩=some (sv m)/\ w5.cell? ⟨w.heap.size,1,none⟩=some (sv t):=⟨(L5.cell (p:=⟨w.heap.size,0,none⟩) hpV).trans v0,(L5.cell (p:=⟨w.heap.size,1,none⟩) hpV).trans v1⟩;have B5:=BV.ah L5
        obtain⟨k0,k1,k2,k3,l0,l1,l2,l3⟩:=B5.c4)
     | (go_at_call 362
        refine(hTP _ hn3).mono ?_;rintro e w5 ⟨rfl,L5⟩;have L5':=stepW M3 L5
        have S5:w5.cell? ⟨w.heap.size,0,none⟩=some (sv m)/\ w5.cell? ⟨w.heap.size,1,none⟩=some (sv t):=⟨(L5.cell (p:=⟨w.heap.size,0,none⟩) hp0).trans x0,(L5.cell (p:=⟨w.heap.size,1,none⟩) hp0).trans x1⟩))
  all_goals go_wp2_with fail
  all_goals go_meet
  all_goals case rel=>
   first
    | (have BB5:=B5
       exact⟨_,rfl,rfl,Blk.set4 BB5 _ _ _ _,hp0,Lh L5' (Nat.le_of_lt hp0) _ _ _ _,(PG hnw).trans S5.1⟩)
    |exact⟨_,rfl,rfl,Blk.new' _ _ rfl _ _,Nat.lt_of_lt_of_le hp0 L5.size,aj L5' _,((aj (Below.refl w5.heap.size w5) _).cell (p:=⟨w.heap.size,0,none⟩) (Nat.lt_of_lt_of_le hp0 L5.size)).trans S5.1⟩
 case rest=>
  obtain⟨tb,rfl,rfl,BT,htb,LX,xm⟩:=hcut;obtain⟨wx,rfl⟩: ∃wx,wx=wc:=⟨_,rfl⟩;by_cases er0:er=0
  ·subst er0
   have HE:=Lib.hid (show aU s.data.toList=(0,m,T,if b=48 then 0 else 1) by rw[HM3.out,if_pos rfl])
   have hbx:=hb.ah LX;have hgt: ¬g=tb:=fun h1=>by have:=hb.lt;omega
   have hgt2: ¬tb=g:=fun h1=>hgt h1.symm
   have hgw: ¬g=w.heap.size:=fun h1=>by have:=hb.lt;omega
   have hgw2: ¬w.heap.size=g:=fun h1=>hgw h1.symm
   have hbu:=hbx;unfold bn at hbu;obtain⟨⟨j0,j1,j2,j3,j4,j5,j6,j7,j8,j9,j10,j11,j12,j13,j14,j15⟩,i0,i1,i2,i3,i4,i5,i6,i7,i8,i9,i10,i11,i12,i13,i14,i15⟩:=Blk.c16 hbu;obtain⟨k0,k1,k2,k3,l0,l1,l2,l3⟩:=BT.c4;clear HM3 hTP BV LV L3 hm3 M3 hn3 v0 v1 hpV x0 x1 j0 j8 j9 j10 j11 j12 j13 j14 j15 i0 i8 i9 i10 i11 i12 i13 i14 i15 BT hDa hDb L1 hbu;go_wp2_with fail
   go_region_held3 (fun w'=>w'.cell? ⟨w.heap.size,0,none⟩=some (sv m)/\ w'.cell? ⟨tb,0,none⟩=some (.int .i64 T.form)/\ w'.cell? ⟨tb,1,none⟩=some (sv T.host)/\ w'.cell? ⟨tb,2,none⟩=some (sv T.path)/\ w'.cell? ⟨tb,3,none⟩=some (sv T.query))
    (go_keep)
    (fail)
   have hB9:=(((((((hbx.ay 7 (.bool true)).ay 1 (sv m)).ay 2 (.int .i64 T.form)).ay 3 (sv T.host)).ay 4 (sv T.path)).ay 5 (sv T.query)).ay 6 (.int .i64 1)).ah ((Below.refl _ _).drew);rw[Gg]at hB9;have hF0:Fr (fun k=>k=g) w wx:=(Fr.refl _ w).ah LX
   have hF9:=(((((((hF0.setCell (p:=⟨g,7,none⟩) (.inl rfl) (.bool true)).setCell (p:=⟨g,1,none⟩) (.inl rfl) (sv m)).setCell (p:=⟨g,2,none⟩) (.inl rfl) (.int .i64 T.form)).setCell (p:=⟨g,3,none⟩) (.inl rfl) (sv T.host)).setCell (p:=⟨g,4,none⟩) (.inl rfl) (sv T.path)).setCell (p:=⟨g,5,none⟩) (.inl rfl) (sv T.query)).setCell (p:=⟨g,6,none⟩) (.inl rfl) (.int .i64 1)).drew;generalize hV9:(((((((wx.setCell ⟨g,7,none⟩ (.bool true)).setCell ⟨g,1,none⟩ (sv m)).setCell ⟨g,2,none⟩ (.int .i64 T.form)).setCell ⟨g,3,none⟩ (sv T.host)).setCell ⟨g,4,none⟩ (sv T.path)).setCell ⟨g,5,none⟩ (sv T.query)).setCell ⟨g,6,none⟩ (.int .i64 1)).drew=V9 at hB9 hF9⊢;have f6:=hB9.frozen 6;have d6:V9.cell? ⟨g,6,none⟩=some (.int .i64 1):=hB9.cell 6;by_cases b48:b=48
   ·subst b48
    go_wp2
    go_ret
    refine⟨by rw[HE.out];rfl,?_,hF9.setCell (.inl rfl) _⟩
    rw[stH,HE.out,if_pos rfl];have hB10:=hB9.ay 6 (.int .i64 0);rw[Gh]at hB10;exact hB10
   ·have hne:=Uk b48 (n:=48) rfl
    go_wp2
    go_ret
    refine⟨by rw[HE.out];rfl,?_,hF9⟩
    rw[stH,HE.out,if_pos rfl,if_neg b48];exact hB9
  ·have hz0:(er==0)=false:=by rw[Bool.eq_false_iff];intro h0;rw[beq_iff_eq]at h0;exact er0 h0
   by_cases er9:er=9
   ·subst er9
    have HE:=Lib.hid (show aU s.data.toList=(414,[],bY,0) by rw[HM3.out,if_neg er0,if_pos rfl])
    clear HM3 hTP BV LV L3 hm3 M3 hn3 v0 v1 hpV x0 x1 hDa hDb L1;go_wp2
    go_ret
    exact fM hb LX HE.out (by decide)
   ·have HE:=Lib.hid (show aU s.data.toList=(400,[],bY,0) by rw[HM3.out,if_neg er0,if_neg er9])
    have hz9:(er==9)=false:=by rw[Bool.eq_false_iff];intro h0;rw[beq_iff_eq]at h0;exact er9 h0
    clear HM3 hTP BV LV L3 hm3 M3 hn3 v0 v1 hpV x0 x1 hDa hDb L1;go_wp2
    go_ret
    exact fM hb LX HE.out (by decide)
theorem PI (g pf:Nat) (h:HS) (s:ByteArray) (w:World) (hb:Blk w g 356 (bn h pf)) (hs:s.size<= 1000) (hm:ML w):
 Calls Tryz.prog 343 #[.pointer (some ⟨g,0,none⟩),.string s] w (uH w g pf h s.data.toList):=by
 obtain⟨L,hL⟩: ∃L,L=aS 32 s.data.toList:=⟨_,rfl⟩;have hS:=oI s 32 w (by omega) hm
 rw[<- hL]at hS;by_cases h3:L.length=3
 ·obtain⟨m,t,v,rfl⟩: ∃m t v,L= [m,t,v]:=by
   match L,h3 with
   | [m,t,v],_=>exact⟨m,t,v,rfl⟩
  have HM:=Lib.hid (I4 _ _ _ _ hL.symm);have HL:=Lib.hid hL.symm;have hz: ∀p∈aS 32 s.data.toList,p.length<= s.size:=fun p hp=>by rw[<- au];exact kZ _ _ _ hp
  rw[<- hL]at hz;have z1:=hz m (by simp)
  have z2:=hz t (by simp)
  have z3:=hz v (by simp)
  clear hz hL h3;have hT:=fun w=>gG ⟨m.toArray⟩ w (by show m.length<= _;unfold maxLen;omega)
  rw[show(⟨m.toArray⟩:ByteArray).data.toList=m from rfl,show(allT m&&decide (0<m.length))=tkL m from rfl]at hT
  cases t1:tkL m
  ·have HE:=Lib.hid (show aU s.data.toList=(400,[],bY,0) by rw[HM.out,t1];rfl)
   rw[t1]at hT;clear t1 HM;go_enter Tryz.func343,Tryz.ntmps343
   go_wp2_with fail
   refine hS.mono ?_;rintro e w1 ⟨rfl,hr,L1⟩;obtain⟨x0,x1,x2⟩:=cells3 hr;go_wp2_with fail
   refine(hT _).mono ?_;rintro e w2 ⟨rfl,rfl⟩;go_wp2
   go_ret
   exact fM hb L1 HE.out (by decide)
  ·have hP:=fun w=>Tryz.strings_CutPrefix ⟨v.toArray⟩ ⟨#[72,84,84,80,47]⟩ w
   rw[show(⟨v.toArray⟩:ByteArray).data.toList=v from rfl,show(⟨#[72,84,84,80,47]⟩:ByteArray).data.toList=kY from rfl]at hP
   have HM2:=Lib.hid (HM.out.trans (if_pos t1));rw[t1]at hT;have HT1:=Lib.hid t1;clear t1 HM;cases p1:Lib.hasPrefix v kY
   ·have HE:=Lib.hid (show aU s.data.toList=(400,[],bY,0) by rw[HM2.out,Yh v p1])
    rw[p1]at hP;clear p1 HM2;go_enter Tryz.func343,Tryz.ntmps343
    go_wp2_with fail
    refine hS.mono ?_;rintro e w1 ⟨rfl,hr,L1⟩;obtain⟨x0,x1,x2⟩:=cells3 hr;go_wp2_with fail
    refine(hT _).mono ?_;rintro e w2 ⟨rfl,rfl⟩;go_wp2_with fail
    refine(hP _).mono ?_;rintro e w3 ⟨rfl,rfl⟩;go_wp2
    go_ret
    exact fM hb L1 HE.out (by decide)
   ·obtain⟨q1,q2⟩:=IZ v p1
    rw[p1,q2]at hP;by_cases h5:(v.drop 5).length=3
    ·obtain⟨a,d,b,hu⟩:=Ui _ h5
     have HP1:=Lib.hid p1;have HU:=Lib.hid hu;rw[hu]at hP;have HV:=Lib.hid (AA v a d b q1 hu);clear p1 q1 q2 h5 hu;obtain⟨U,hU⟩: ∃U:ByteArray,U=⟨[a,d,b].toArray⟩:=⟨_,rfl⟩;rw[<- hU]at hP;have us:U.size=3:=by rw[hU];rfl
     have e0:U[0]'(by omega)=a:=by subst hU;rfl
     have e1:U[1]'(by omega)=d:=by subst hU;rfl
     have e2:U[2]'(by omega)=b:=by subst hU;rfl
     have hDa:=fun w=>oK a w
     have hDb:=fun w=>oK b w
     clear hU;cases da:Di a
     ·have HE:=Lib.hid (show aU s.data.toList=(400,[],bY,0) by rw[HM2.out,HV.out,if_neg (by rw[da];simp)])
      rw[da]at hDa;clear HM2 HV da;go_enter Tryz.func343,Tryz.ntmps343
      go_wp2_with fail
      refine hS.mono ?_;rintro e w1 ⟨rfl,hr,L1⟩;obtain⟨x0,x1,x2⟩:=cells3 hr;go_wp2_with fail
      refine(hT _).mono ?_;rintro e w2 ⟨rfl,rfl⟩;go_wp2_with fail
      refine(hP _).mono ?_;rintro e w3 ⟨rfl,rfl⟩;go_wp2_with fail
      refine(hDa _).mono ?_;rintro e w4 ⟨rfl,rfl⟩;go_wp2
      go_ret
      exact fM hb L1 HE.out (by decide)
     ·rw[da]at hDa
      by_cases d46:d=46
      ·subst d46
       cases db:Di b
       ·have HE:=Lib.hid (show aU s.data.toList=(400,[],bY,0) by rw[HM2.out,HV.out,if_neg (by rw[db];simp)])
        rw[db]at hDb;clear HM2 HV da db;go_enter Tryz.func343,Tryz.ntmps343
        go_wp2_with fail
        refine hS.mono ?_;rintro e w1 ⟨rfl,hr,L1⟩;obtain⟨x0,x1,x2⟩:=cells3 hr;go_wp2_with fail
        refine(hT _).mono ?_;rintro e w2 ⟨rfl,rfl⟩;go_wp2_with fail
        refine(hP _).mono ?_;rintro e w3 ⟨rfl,rfl⟩;go_wp2_with fail
        refine(hDa _).mono ?_;rintro e w4 ⟨rfl,rfl⟩;go_wp2_with fail
        refine(hDb _).mono ?_;rintro e w4 ⟨rfl,rfl⟩;go_wp2
        go_ret
        exact fM hb L1 HE.out (by decide)
       ·rw[db]at hDb
        have hv2:=HV.out.trans (if_pos ⟨rfl,da,db⟩);by_cases a49:a=49
        ·subst a49
         exact Gi g pf h s w hb hs hm m t v b HL.out HT1.out HP1.out HU.out db
        ·have HE:=Lib.hid (show aU s.data.toList=(505,[],bY,0) by rw[HM2.out,hv2];simp only;rw[if_neg a49])
         have hne:=Uk a49 (n:=49) rfl;have hne2:((a.toNat:Int) != 49)=true:=by rw[bne,hne];rfl
         clear HM2 HV da db hv2 a49;go_enter Tryz.func343,Tryz.ntmps343
         go_wp2_with fail
         refine hS.mono ?_;rintro e w1 ⟨rfl,hr,L1⟩;obtain⟨x0,x1,x2⟩:=cells3 hr;go_wp2_with fail
         refine(hT _).mono ?_;rintro e w2 ⟨rfl,rfl⟩;go_wp2_with fail
         refine(hP _).mono ?_;rintro e w3 ⟨rfl,rfl⟩;go_wp2_with fail
         refine(hDa _).mono ?_;rintro e w4 ⟨rfl,rfl⟩;go_wp2_with fail
         refine(hDb _).mono ?_;rintro e w4 ⟨rfl,rfl⟩;go_wp2
         go_ret
         exact fM hb L1 HE.out (by decide)
      ·have HE:=Lib.hid (show aU s.data.toList=(400,[],bY,0) by rw[HM2.out,HV.out,if_neg (fun h0=>d46 h0.1)])
       have hne:=Uk d46 (n:=46) rfl;have hne2:((d.toNat:Int) != 46)=true:=by rw[bne,hne];rfl
       clear HM2 HV da d46;go_enter Tryz.func343,Tryz.ntmps343
       go_wp2_with fail
       refine hS.mono ?_;rintro e w1 ⟨rfl,hr,L1⟩;obtain⟨x0,x1,x2⟩:=cells3 hr;go_wp2_with fail
       refine(hT _).mono ?_;rintro e w2 ⟨rfl,rfl⟩;go_wp2_with fail
       refine(hP _).mono ?_;rintro e w3 ⟨rfl,rfl⟩;go_wp2_with fail
       refine(hDa _).mono ?_;rintro e w4 ⟨rfl,rfl⟩;go_wp2
       go_ret
       exact fM hb L1 HE.out (by decide)
    ·have HE:=Lib.hid (show aU s.data.toList=(400,[],bY,0) by rw[HM2.out,Uh v h5])
     obtain⟨U,hU⟩: ∃U:ByteArray,U=⟨(v.drop 5).toArray⟩:=⟨_,rfl⟩;rw[<- hU]at hP;have hs3:((U.size:Int) != 3)=true:=by
      rw[bne_iff_ne];intro h0;apply h5;have:U.size=(v.drop 5).length:=by rw[hU];rfl
      omega
     clear p1 q1 q2 h5 hU HM2;go_enter Tryz.func343,Tryz.ntmps343
     go_wp2_with fail
     refine hS.mono ?_;rintro e w1 ⟨rfl,hr,L1⟩;obtain⟨x0,x1,x2⟩:=cells3 hr;go_wp2_with fail
     refine(hT _).mono ?_;rintro e w2 ⟨rfl,rfl⟩;go_wp2_with fail
     refine(hP _).mono ?_;rintro e w3 ⟨rfl,rfl⟩;go_wp2
     go_ret
     exact fM hb L1 HE.out (by decide)
 ·have HM:=Lib.hid (Uj s.data.toList (by rw[<- hL];exact h3))
  have h3i:((L.length:Int) != 3)=true:=by rw[bne_iff_ne];omega
  generalize L.length=n at hS h3i;clear hL h3;go_enter Tryz.func343,Tryz.ntmps343
  go_wp2_with fail
  refine hS.mono ?_;rintro e w1 ⟨rfl,hr,L1⟩;go_wp2
  go_ret
  exact fM hb L1 HM.out (by decide)
structure AL (h:HS):Prop where
 len:h.bJ.length<= 24
 sz:oJ h.bJ
 m0:0<= h.minor
 m1:h.minor<= 1
 bytes:h.bytes<= 1300
 empty:h.empty<= 5
 on:h.whole=false-> h.status=0-> h.bytes<= 1024/\ h.empty<= 4
 fr:h.begun=false-> h.minor=0
theorem Yi:AL hs0:=⟨by decide,(by intro f hf;cases hf),by decide,by decide,by decide,by decide,fun _ _=>⟨by decide,by decide⟩,fun _=>rfl⟩
def HS.on (h:HS):Bool:= !h.whole&&decide (h.status=0)
theorem HS.eY (h:HS) (ho:h.on=true):h.whole=false/\ h.status=0:=by simpa [HS.on] using ho
theorem HS.DZ (h:HS) (ho:h.on=false):h.whole=true\/ (h.whole=false/\ h.status≠0):=by
 unfold HS.on at ho;cases hw:h.whole
 ·rw[hw]at ho;simp at ho;exact .inr ⟨rfl,ho⟩
 ·exact .inl rfl
theorem xR (h:HS) (s:Bs) (ho:h.on=false):jP h s=h:=by
 rw[jP,if_pos];rcases h.DZ ho with h1| ⟨-,h1⟩
 ·exact .inl h1
 ·exact .inr h1
def hB (h:HS) (s:Bs):Nat:=h.bytes+min s.length 257+2
theorem lq (h:HS) (s:Bs) (ho:h.on=true):jP h s=(if 256<s.length\/ 1024<hB h s then { h with bytes:=hB h s,status:=if h.begun then 431 else 414 }
 else if h.begun=false then
  (if s= []then { h with bytes:=hB h s,empty:=h.empty+1,status:=if 4<h.empty+1 then 400 else 0 }
   else if(aU s).1=0 then { h with bytes:=hB h s,begun:=true,method:=(aU s).2.1,tgt:=(aU s).2.2.1,minor:=(aU s).2.2.2 }
   else { h with bytes:=hB h s,status:=(aU s).1 })
 else if s= []then
  { h with bytes:=hB h s,how:=(yV (decide (1<= h.minor)) h.bJ).1,status:=(yV (decide (1<= h.minor)) h.bJ).2,whole:=decide ((yV (decide (1<= h.minor)) h.bJ).2=0) }
 else { h with bytes:=hB h s,status:=(adL h.bJ s).1,bJ:=(adL h.bJ s).2 }):=by
 obtain⟨h1,h2⟩:=h.eY ho;rw[jP,if_neg (by rw[h1,h2];simp)]
 show(if 256<s.length\/ 1024<hB h s then _ else _)=_
 by_cases c1:256<s.length\/ 1024<hB h s
 ·rw[if_pos c1,if_pos c1];rfl
 rw[if_neg c1,if_neg c1];by_cases c3:h.begun=false
 ·rw[if_pos c3,if_pos c3];rfl
 rw[if_neg c3,if_neg c3];by_cases c4:s= []
 ·rw[if_pos c4,if_pos c4];rfl
 rw[if_neg c4,if_neg c4];unfold adL;cases eX s with
 |none=>rfl
 |some f=>
  simp only;by_cases c5:24<= h.bJ.length
  ·rw[if_pos c5,if_pos c5];rfl
  ·rw[if_neg c5,if_neg c5,h2];rfl
theorem vP (s:Bs):0<=(aU s).2.2.2/\ (aU s).2.2.2<= 1:=by
 unfold aU;split
 ·split
  ·split
   ·simp
   ·split
    ·split
     ·simp only;split<;>simp
     ·split<;>simp
    ·simp
  ·simp
 ·simp
theorem Yj (l:List Fd) (s:Bs) (hl:l.length<= 24) (hz:oJ l):(adL l s).2.length<= 24/\ oJ (adL l s).2:=by
 unfold adL;split
 ·exact⟨hl,hz⟩
 ·rename_i f hf
  obtain⟨-,z1,z2⟩:=DY _ _ hf;split
  ·exact⟨hl,hz⟩
  ·refine⟨by simp;omega,fun g hg=> ?_⟩
   rcases List.mem_append.1 hg with hg|hg
   ·exact hz g hg
   ·rw[List.mem_singleton]at hg
    subst hg;exact⟨Nat.le_trans z1 (by decide),Nat.le_trans z2 (by decide)⟩
theorem PL (h:HS) (s:Bs) (hi:AL h):AL (jP h s):=by
 cases ho:h.on
 ·rw[xR h s ho];exact hi
 obtain⟨h1,h2⟩:=h.eY ho;obtain⟨b1,b2⟩:=hi.on h1 h2;have hb:hB h s<= 1300:=by unfold hB;omega
 rw[lq h s ho];by_cases c1:256<s.length\/ 1024<hB h s
 ·rw[if_pos c1]
  refine⟨hi.len,hi.sz,hi.m0,hi.m1,hb,by show h.empty<= 5;omega,fun _ hs=> ?_,hi.fr⟩
  exfalso
  revert hs
  show(if h.begun=true then(431:Int)else 414)=0-> False
  split<;>decide
 rw[if_neg c1];have c2:hB h s<= 1024:=by omega
 by_cases c3:h.begun=false
 ·rw[if_pos c3]
  by_cases c4:s= []
  ·rw[if_pos c4]
   refine⟨hi.len,hi.sz,hi.m0,hi.m1,hb,by show h.empty+1<= 5;omega,fun _ hs=>⟨c2,?_⟩,hi.fr⟩
   show h.empty+1<= 4;by_cases c5:4<h.empty+1
   ·exfalso
    simp only[if_pos c5]at hs
    revert hs;decide
   ·omega
  ·rw[if_neg c4]
   split
   ·exact⟨hi.len,hi.sz,(vP s).1,(vP s).2,hb,by show h.empty<= 5;omega,fun _ _=>⟨c2,b2⟩,fun h0=>by cases h0⟩
   ·rename_i c5
    exact⟨hi.len,hi.sz,hi.m0,hi.m1,hb,by show h.empty<= 5;omega,fun _ hs=>absurd hs c5,hi.fr⟩
 ·rw[if_neg c3]
  by_cases c4:s= []
  ·rw[if_pos c4]
   exact⟨hi.len,hi.sz,hi.m0,hi.m1,hb,by show h.empty<= 5;omega,fun _ _=>⟨c2,b2⟩,hi.fr⟩
  ·rw[if_neg c4]
   obtain⟨a1,a2⟩:=Yj h.bJ s hi.len hi.sz;exact⟨a1,a2,hi.m0,hi.m1,hb,by show h.empty<= 5;omega,fun _ _=>⟨c2,b2⟩,hi.fr⟩
theorem Yk (h:HS) (s:Bs) (h0:(aU s).1=0):stH h s= { h with begun:=true,method:=(aU s).2.1,tgt:=(aU s).2.2.1,minor:=(aU s).2.2.2 } :=if_pos h0
theorem Z8 (h:HS) (s:Bs) (h0: ¬(aU s).1=0):stH h s=h:=if_neg h0
end Go.Proofs.YtdmondfpepbniaaGreatDoor
