/- Part 8 of the proof: Num ReP EncK ReE. -/
import Derived.Laws.BitsLemmas
import Derived.OwnWalk
import Derived.Deep.RegionHeld3
import Derived.Test.YtdmondfpepbniaaGreatDoorQ05
import Derived.Test.YtdmondfpepbniaaGreatDoorQ06
namespace Go.Proofs.YtdmondfpepbniaaGreatDoor
open Go.RowKit
set_option maxRecDepth 100000
set_option maxHeartbeats 4000000
set_option linter.all false
theorem D6 (b:Nat) (hb:2<= b): ∀(k u:Nat),u<b ^ (k+1)->(eG b u).length<= k+1
 |0,u,h=>by rw[jv b u hb,if_pos (Nat.div_eq_of_lt (by simpa using h))];simp
 |k+1,u,h=>by
  rw[jv b u hb];split
  ·simp
  ·have:=D6 b hb k (u / b) (Nat.div_lt_of_lt_mul (by rwa [Nat.pow_succ,Nat.mul_comm]at h))
   simp;omega
def CS.on (r:CS):Bool:= !r.whole&&decide (r.status=0)
theorem CS.Ul (r:CS):r.on=true↔¬(r.whole=true\/ r.status≠0):=by
 unfold CS.on;cases r.whole<;>simp
theorem rH (r:CS) (p:Bs) (h:r.on=false):dU r p=(0,r):=by
 cases p with
 |nil=>rfl
 |cons c p=>
  rw[dU,if_pos];apply Classical.byContradiction;intro h2;rw[(CS.Ul r).2 h2]at h;cases h
theorem qG (r:CS) (c:UInt8) (p:Bs) (h:r.on=true):dU r (c::p)=((dU (dF r c) p).1+1,(dU (dF r c) p).2):=by
 rw[dU,if_neg ((CS.Ul r).1 h)]
def nI (p:Bs):Bs:=if p= []then []else eG 16 p.length++ [13,10]++p++ [13,10]
def AO (ps:List Bs):Bs:=ps.flatMap nI++ [48,13,10,13,10]
theorem Um:nI []= []:=by simp[nI]
structure lu (r:CS):Prop where
 place:r.place<= 3
 data:r.place=1-> 1<= r.left/\ r.left<= 16777216
 fin:r.place=2-> r.left=1\/ r.left=2
 line:(r.place=1\/ r.place=2)-> r.line= []
 left:(r.place=0\/ r.place=3)-> r.left=0
 body:r.body.length+(if r.place=1 then r.left else 0)<= 2048
 trs:r.trs.length<= 8
 len:r.line.length<= 258
 I5:r.on=true-> r.line.length<= 257
 ends:r.on=true-> r.ends<= 512
 kJ:r.ends<= 1000
theorem Yl:lu cs0:=⟨by decide,by decide,by decide,by decide,by decide,by decide,by decide,by decide,by decide,by decide,by decide⟩
theorem CS.eY (r:CS) (h:r.on=true):r.whole=false/\ r.status=0:=by
 unfold CS.on at h;simpa using h
theorem qH (base:Int) (hb:0<= base): ∀(l:Bs) (n v:Int),0<= n-> jM base l n=some v-> 0<= v
 | [],n,v,hn,h=>by simp[jM]at h;omega
 |c::l,n,v,hn,h=>by
  rw[jM]at h;split at h
  ·cases h
  ·rename_i hc
   exact qH base hb l _ v (Int.add_nonneg (Int.mul_nonneg hn hb) (by omega)) h
theorem kM (s:Bs) (v:Int) (h:nC s=some v):0<= v:=by
 rw[nC]at h;split at h
 ·cases h
 ·split at h
  ·rw[dA]at h
   split at h
   ·cases h
   ·exact qH 16 (by decide) _ 0 v (Int.le_refl _) h
  ·cases h
theorem PN (r:CS) (s:Bs) (h:lu r) (hp:r.place=0):lu (nD { r with line:= [] } s):=by
 have hb:=h.body;have hlf:=h.left (.inl hp);rw[if_neg (by omega)]at hb
 rw[nD];cases hs:nC s with
 |none=>exact⟨h.place,h.data,h.fin,fun _=>rfl,h.left,by simp only;rw[if_neg (by omega)];omega,h.trs,by simp,by simp,fun ho=>by simp[CS.on]at ho,h.kJ⟩
 |some v=>
  have hv:=kM s v hs;simp only;split
  ·exact⟨h.place,h.data,h.fin,fun _=>rfl,h.left,by simp only;rw[if_neg (by omega)];omega,h.trs,by simp,by simp,fun ho=>by simp[CS.on]at ho,h.kJ⟩
  ·split
   ·exact⟨by simp,by simp,by simp,fun _=>rfl,fun _=>hlf,by simp only;rw[if_neg (by omega)];omega,h.trs,by simp,by simp,h.ends,h.kJ⟩
   ·rename_i h1 h2
    exact⟨by simp,fun _=>⟨by simp only;omega,by simp only;omega⟩,by simp,fun _=>rfl,by simp,by simp only[if_true];omega,h.trs,by simp,by simp,h.ends,h.kJ⟩
theorem qI (r:CS) (e:Int) (h:r.status=e) (h2:e≠0): ¬r.on=true:=by
 intro ho;have:=(CS.eY r ho).2;omega
theorem Gj (r:CS) (s:Bs) (h:lu r) (hp:r.place=3) (ho:r.on=true) (hs:s.length<= 257):lu (gI { r with line:= [] } s):=by
 have hb:=h.body;have hlf:=h.left (.inr hp);have he:=h.ends ho;rw[if_neg (by omega)]at hb
 rw[gI];cases hf:eX s with
 |none=>exact⟨h.place,h.data,h.fin,fun _=>rfl,h.left,by simp only;rw[if_neg (by omega)];omega,h.trs,by simp,by simp,fun ho=>by simp[CS.on]at ho,by simp only;omega⟩
 |some f=>
  simp only;split
  ·exact⟨h.place,h.data,h.fin,fun _=>rfl,h.left,by simp only;rw[if_neg (by omega)];omega,h.trs,by simp,by simp,fun ho=>by simp[CS.on]at ho,by simp only;omega⟩
  ·rename_i h1
   have ht:=h.trs;exact⟨h.place,h.data,h.fin,fun _=>rfl,h.left,by simp only;rw[if_neg (by omega)];omega,by simp only[List.length_append,List.length_cons,List.length_nil];omega,by simp,by simp,fun _=>by simp only;omega,by simp only;omega⟩
theorem PO (r:CS) (c:UInt8) (h:lu r) (hp:r.place=0\/ r.place=3) (ho:r.on=true):lu (kH r c):=by
 have hb:=h.body;have hlf:=h.left hp;have he:=h.ends ho;have hl:=h.I5 ho;have hn1:r.place≠1:=by omega
 have hn2:r.place≠2:=by omega
 rw[if_neg hn1]at hb;rw[kH];split
 ·split
  ·split
   ·rename_i h1 h2 h3
    exact PN r _ h h3
   ·simp only
    split
    ·exact⟨h.place,h.data,h.fin,fun _=>rfl,h.left,by simp only;rw[if_neg hn1];omega,h.trs,by simp,by simp,fun _=>he,h.kJ⟩
    ·exact Gj r _ h (by omega) ho (by rw[List.length_dropLast];omega)
  ·exact⟨h.place,h.data,h.fin,h.line,h.left,by simp only;rw[if_neg hn1];omega,h.trs,h.len,fun ho=>absurd ho (qI _ 400 rfl (by decide)),fun ho=>absurd ho (qI _ 400 rfl (by decide)),h.kJ⟩
 ·simp only
  obtain⟨k,hk⟩: ∃k,k=(if c=13 then r.line.length else r.line.length+1):=⟨_,rfl⟩
  have hk2:r.line.length<= k:=by rw[hk];split<;>omega
  rw[<- hk];split
  ·exact⟨h.place,h.data,h.fin,fun hx=>by simp only at hx;omega,h.left,by simp only;rw[if_neg hn1];omega,h.trs,by simp;omega,fun ho=>absurd ho (qI _ 400 rfl (by decide)),fun ho=>absurd ho (qI _ 400 rfl (by decide)),h.kJ⟩
  ·split
   ·exact⟨h.place,h.data,h.fin,fun hx=>by simp only at hx;omega,h.left,by simp only;rw[if_neg hn1];omega,h.trs,by simp;omega,fun ho=>absurd ho (qI _ 431 rfl (by decide)),fun ho=>absurd ho (qI _ 431 rfl (by decide)),h.kJ⟩
   ·rename_i h1 h2
    refine⟨h.place,h.data,h.fin,fun hx=>by simp only at hx;omega,h.left,by simp only;rw[if_neg hn1];omega,h.trs,by simp;omega,fun _=> ?_,fun _=>he,h.kJ⟩
    simp only[List.length_append,List.length_cons,List.length_nil];rcases hp with hp|hp
    ·have: ¬(64<k):=fun hx=>h1 ⟨hp,hx⟩
     omega
    ·have: ¬(256<k):=fun hx=>h2 ⟨hp,.inl hx⟩
     omega
theorem D7 (r:CS) (c:UInt8) (h:lu r) (ho:r.on=true):lu (dF r c):=by
 have hb:=h.body;have hpl:=h.place;rw[dF];split
 ·rename_i hp
  have hd:=h.data hp;have hl:=h.line (.inl hp);rw[if_pos hp]at hb;split
  ·exact⟨by simp,by simp,fun _=>.inr rfl,fun _=>hl,by simp,by simp only[List.length_append,List.length_cons,List.length_nil];rw[if_neg (by decide)];omega,h.trs,h.len,h.I5,h.ends,h.kJ⟩
  ·exact⟨h.place,fun _=>by simp only;omega,fun hx=>by simp only at hx;omega,fun _=>hl,fun hx=>by simp only at hx;omega,by simp only[List.length_append,List.length_cons,List.length_nil];rw[if_pos hp];omega,h.trs,h.len,h.I5,h.ends,h.kJ⟩
 ·rename_i hn1
  rw[if_neg hn1]at hb;split
  ·rename_i hp
   have hl:=h.line (.inr hp);have hf:=h.fin hp;obtain⟨x,hx⟩: ∃x:UInt8,x=(if r.left=2 then 13 else 10):=⟨_,rfl⟩
   rw[<- hx];clear hx;split
   ·split
    ·exact⟨by simp,by simp,by simp,fun _=>hl,fun _=>rfl,by simp only;rw[if_neg (by decide)];omega,h.trs,h.len,h.I5,h.ends,h.kJ⟩
    ·exact⟨h.place,fun hx=>by simp only at hx;omega,fun _=>.inl rfl,fun _=>hl,fun hx=>by simp only at hx;omega,by simp only;rw[if_neg hn1];omega,h.trs,h.len,h.I5,h.ends,h.kJ⟩
   ·exact⟨h.place,h.data,h.fin,h.line,h.left,by simp only;rw[if_neg hn1];omega,h.trs,h.len,fun ho=>absurd ho (qI _ 400 rfl (by decide)),fun ho=>absurd ho (qI _ 400 rfl (by decide)),h.kJ⟩
  ·rename_i hn2
   exact PO r c h (by omega) ho
inductive R3 (α:Type) where
 |short
 |bad
 |ok (a:α) (r:Bs)
def R3.bind {α β:Type} (x:R3 α) (f:α-> Bs-> R3 β):R3 β:=
 match x with
 | .short=>.short
 | .bad=>.bad
 | .ok a r=>f a r
theorem R3.bind_ok {α β:Type} (a:α) (r:Bs) (f:α-> Bs-> R3 β):R3.bind (.ok a r) f=f a r:=rfl
theorem R3.PU {α β γ:Type} (x:R3 α) (f:α-> Bs-> R3 β) (g:β-> Bs-> R3 γ):(x.bind f).bind g=x.bind fun a r=>(f a r).bind g:=by
 cases x<;>rfl
def crlf:Bs:= [13,10]
def PV:Bs:= [72,84,84,80,47,49,46,49,32]
def csB:Bs:= [58,32]
def chB:Bs:=csB++bP
def tkB (b:UInt8):Bool:=zH b.toNat
def vlB (b:UInt8):Bool:=iC b.toNat
def dgB (b:UInt8):Bool:=decide (48<= b.toNat/\ b.toNat<= 57)
def hxB (b:UInt8):Bool:=dgB b||decide (97<= b.toNat/\ b.toNat<= 102)
def lH (n:Bs):Bool:=Df n teN||Df n clN||Df n coN
structure Rs where
 st:Int
 f:List Fd
 b:Bs
 p:List Int
deriving DecidableEq
def rs0:Rs:=⟨0,[],[],[]⟩
def aK:Bs-> Bs-> R3 Unit
 | [],r=>.ok () r
 |_::_,[]=>.short
 |c::s,d::r=>if d=c then aK s r else .bad
def Gl (i:Nat) (st:Int):Bs-> R3 Int
 | []=>.short
 |c::r=>if dgB c&& !(decide (i=0)&& (decide (c.toNat<50)||decide (53<c.toNat)))then .ok (10*st+((c.toNat:Int)-48)) r else .bad
def Dj (st:Int):Bs:=32::(bH st++crlf)
def dX (r:Bs):R3 Int:=
 (aK PV r).bind fun _ r=>(Gl 0 0 r).bind fun a r=>(Gl 1 a r).bind fun b r=>(Gl 2 b r).bind fun c r=>(aK (Dj c) r).bind fun _ r=>.ok c r
def vS (nb:Bool):List Bs:=if nb then [coN]else [teN,clN]
def Un (ours:List Bs) (nf:Nat) (s:Bs):Bool:=decide (24<= nf)&&ours.all fun o=> !s.isPrefixOf o
def jQ (ours:List Bs) (nf:Nat) (r:Bs):R3 Bs:=
 if r.dropWhile tkB= []then(if Un ours nf (r.takeWhile tkB)then .bad else .short)
 else if ours.contains (r.takeWhile tkB)then .ok (r.takeWhile tkB) r
 else if decide (r.takeWhile tkB= [])||lH (r.takeWhile tkB)||decide (24<= nf)then .bad
 else(aK csB (r.dropWhile tkB)).bind fun _ t=>.ok (r.takeWhile tkB) t
def lI (r:Bs):R3 Bs:=
 if trimF (r.takeWhile vlB)≠r.takeWhile vlB then .bad
 else if r.dropWhile vlB= []then .short
 else if bf (r.takeWhile vlB)≠r.takeWhile vlB then .bad
 else(aK crlf (r.dropWhile vlB)).bind fun _ t=>.ok (r.takeWhile vlB) t
def eP (nb:Bool):Nat-> List Fd-> Bs-> R3 (List Fd×Bs)
 |0,_,_=>.bad
 |n+1,fs,r=>
  if nb=true/\ r= []then .short
  else if nb=true/\ r.head? = some 13 then .ok (fs,[]) r
  else(jQ (vS nb) fs.length r).bind fun s t=>if lH s then .ok (fs,s) t else(lI t).bind fun v t=>eP nb n (fs++ [(s,v)]) t
def jl (most:Nat) (p:UInt8-> Bool):Bs-> R3 Bs
 | []=>.short
 |c::r=>if c=48 then .ok [48] r else if((c::r).take most).takeWhile p= []then .bad else .ok (((c::r).take most).takeWhile p) ((c::r).drop (((c::r).take most).takeWhile p).length)
def Uo:Bs:=uf++crlf
def Ur:Bs:=mD++crlf
def I7 {α:Type} (chunked:Bool) (k:Bool-> Bs-> R3 α):Bs-> R3 α
 | []=>.short
 |d::u=>if d=107/\ chunked=false then(aK Uo (d::u)).bind fun _ t=>k false t else(aK Ur (d::u)).bind fun _ t=>k true t
def iR (chunked:Bool):Bs-> R3 Bool
 | []=>.short
 |c::r=>
  if c=13 then(aK crlf (c::r)).bind fun _ t=>.ok false t
  else(aK (coN++csB) (c::r)).bind fun _ t=>I7 chunked (fun b t=>(aK crlf t).bind fun _ t=>.ok b t) t
def jm (n:Nat) (r:Bs):R3 Bs:=if r.length<n then .short else .ok (r.take n) (r.drop n)
def hexV (s:Bs):Nat:=((dA 16 12 s).getD 0).toNat
def Gm (s:Bs):Nat:=((dA 10 15 s).getD 0).toNat
def fU:Nat-> Bs-> List Int-> Bs-> R3 (Bs×List Int)
 |0,_,_,_=>.bad
 |n+1,b,p,r=>(jl 12 hxB r).bind fun s t=>
  if s= [48]/\ p= []then .bad
  else(aK crlf t).bind fun _ t=>
   if s= [48]then(aK crlf t).bind fun _ t=>.ok (b,p) t
   else(jm (hexV s) t).bind fun d t=>(aK crlf t).bind fun _ t=>fU n (b++d) (p++ [((b++d).length:Int)]) t
def AP (head:Bool) (st:Int) (fs:List Fd) (which:Bs) (r:Bs):R3 (Rs×Bool):=
 if which=teN then(aK (teN++(chB++crlf)) r).bind fun _ t=>(iR true t).bind fun e t=>
  if head then .ok (⟨st,fs,[],[]⟩,e) t else(fU (t.length+1) [] [] t).bind fun x t=>.ok (⟨st,fs,x.1,x.2⟩,e) t
 else if which=clN then(aK (clN++csB) r).bind fun _ t=>(jl 15 dgB t).bind fun s t=>(aK crlf t).bind fun _ t=>(iR false t).bind fun e t=>
  if head then .ok (⟨st,fs,[],[]⟩,e) t else(jm (Gm s) t).bind fun d t=>.ok (⟨st,fs,d,[]⟩,e) t
 else(iR false r).bind fun e t=>.ok (⟨st,fs,[],[]⟩,e) t
def lC (head:Bool) (r:Bs):R3 (Rs×Bool):=
 (dX r).bind fun st t=>(eP (bW st) (t.length+1) [] t).bind fun x t=>AP head st x.1 x.2 t
def Lj (b:Bs) (x:R3 (Rs×Bool)):Rs×Bool×Nat×Int:=
 match x with
 | .short=>(rs0,false,0,12)
 | .bad=>(rs0,false,0,8)
 | .ok a t=>(a.1,a.2,b.length-t.length,0)
def ug (head:Bool) (b:Bs):Rs×Bool×Nat×Int:=Lj b (lC head b)
structure RL where
 st:Int
 f:List Fd
 row:Int
 close:Bool
 keep:Bool
 chunked:Bool
 len:Nat
def clS:Bs:=clN++csB
def teS:Bs:=teN++chB
def ccS:Bs:=coN++csB++mD
def ckS:Bs:=coN++csB++uf
def RL.ends (x:RL):Bool:=decide (2<= x.row)|| (decide (x.row=1)&&bW x.st)
def RdS (w:World) (B:Nat) (A:Option Addr) (n:Nat) (ps:List Bs):Prop:=
 ∃vs:List Value,Rd w B 1 A n vs/\ ps.length=n/\ ∀(i:Nat) (p:Bs),ps[i]? = some p-> ∃(Ai:Option Addr) (ci:Nat),vs[i]? = some (Value.slice Ai p.length ci)/\ Rd w B 1 Ai p.length (p.map bv)
theorem RdS.below {w w':World} {B n:Nat} {A:Option Addr} {ps:List Bs} (h:RdS w B A n ps) (hb:Below B w w'):RdS w' B A n ps:=by
 obtain⟨vs,h1,h2,h3⟩:=h;refine⟨vs,h1.below hb,h2,fun i p hp=> ?_⟩
 obtain⟨Ai,ci,e,hr⟩:=h3 i p hp;exact⟨Ai,ci,e,hr.below hb⟩
theorem RdS.at_ {w:World} {B n:Nat} {A:Option Addr} {ps:List Bs} (h:RdS w B A n ps) {k:Nat} {p:Bs} (hp:ps[k]? = some p):
 ∃b o Ai ci,A=some ⟨b,o,none⟩/\ b<B/\ w.cell? ⟨b,o+k,none⟩=some (Value.slice Ai p.length ci)/\ Rd w B 1 Ai p.length (p.map bv):=by
 obtain⟨vs,h1,h2,h3⟩:=h;obtain⟨Ai,ci,e,hr⟩:=h3 k p hp;have hk:k<ps.length:=(List.getElem?_eq_some_iff.1 hp).1;obtain⟨b,o,ea,hb,hc⟩:=h1.2 (by omega)
 exact⟨b,o,Ai,ci,ea,hb,hc k _ e,hr⟩
theorem PX (ps:List Bs) (k:Nat) (p:Bs) (h:ps[k]? = some p):(ps.take (k+1)).flatMap nI=(ps.take k).flatMap nI++nI p:=by
 have hk:k<ps.length:=(List.getElem?_eq_some_iff.1 h).1;rw[List.take_succ_eq_append_getElem hk,List.flatMap_append];have:ps[k]=p:=(List.getElem?_eq_some_iff.1 h).2;simp[this]
theorem NY (ps:List Bs) (k:Nat):((ps.take k).flatMap nI).length<=(ps.flatMap nI).length:=by
 conv=>rhs;rw[<- List.take_append_drop k ps]
 rw[List.flatMap_append,List.length_append];omega
theorem Us (p:Bs) (h:0<p.length):nI p=(eG 16 p.length++ [13,10])++p++ [13,10]:=by
 rw[nI,if_neg (by rintro rfl;simp at h)]
theorem Ll (A:Option Addr) (n c B:Nat) (ps:List Bs) (w:World) (h:RdS w B A n ps) (hB:B<= w.heap.size) (hT:(ps.flatMap nI).length<= 1000000) (hn:n<= 1000000) (ht:TZ w):
 Calls Tryz.prog 194 #[.slice A n c] w (rG w (AO ps)):=by
 have hl:ps.length=n:=by obtain⟨vs,h1,h2,h3⟩:=h;exact h2
 go_enter Tryz.func194,Tryz.ntmps194
 go_wp2
 go_loopw [3,8] (fun v i wr=> ∃k:Nat,k<= n/\ i= .int .i64 k/\ OB wr w.heap.size v ((ps.take k).flatMap nI)/\ Below w.heap.size w wr) (fun _ i _=>n- (intOf i).toNat)
 case atStart=>exact⟨0,Nat.zero_le _,rfl,OB.nil _ _,Below.refl _ _⟩
 case round=>
  obtain⟨k,hk,rfl,ho,L⟩:=hrel;have hS:=L.size;have hF:=NY ps k;by_cases hlt:k<n
  ·obtain⟨p,hp,-⟩: ∃p,ps[k]? = some p/\ True:=⟨ps[k],by simp[hl,hlt],trivial⟩
   have H2:=Lib.hid (PX ps k p hp);have hF2:=NY ps (k+1);rw[H2.out,List.length_append]at hF2;obtain⟨b,o,Ai,ci,rfl,hb,hcell,hr⟩:=(h.below (L.mono hB)).at_ hp;have HP:=Lib.hid hp;clear hp;rcases Nat.eq_zero_or_pos p.length with h0|h0
   ·obtain rfl:p= []:=List.eq_nil_of_length_eq_zero h0
    clear h0;rw[List.length_nil]at hcell hr;go_wp2
    go_roundw
    case rel=>exact⟨k+1,by omega,by go_num,by rw[H2.out,Um,List.append_nil];exact ho,L⟩
    case measure=>simp[intOf];omega
   ·have hE:=Us p h0
    have hEl:(nI p).length=(eG 16 p.length++ [13,10]).length+p.length+2:=by rw[hE];simp only[List.length_append,List.length_cons,List.length_nil]
    have HE:=Lib.hid hE;clear hE;go_wp2_with fail
    refine(IV (p.length:Int) wr (by omega) (ht.below L (Nat.le_refl _))).mono ?_
    rintro e w1 ⟨rfl,L1⟩;have ho1:=ho.ah L1;have L2:=stepW L L1;have hr1:=hr.below (L1.mono (by omega:B<= wr.heap.size))
    rw[Int.toNat_natCast];obtain⟨X,hX⟩: ∃X:ByteArray,X=⟨(eG 16 p.length).toArray⟩:=⟨_,rfl⟩;have HX:=Lib.hid (show X.data.toList=eG 16 p.length by rw[hX])
    have hXs:X.size+2=(eG 16 p.length++ [13,10]).length:=by rw[<- au,HX.out];simp
    rw[show(sv (eG 16 p.length):Value)= .string X by rw[hX]]
    have hXb:X.size<= 1000000:=by omega
    have HXs:=Lib.hid hXs;clear hXs hX ho L L1 hr hcell;have hS2:=L2.size
    go_wp2_with (at_builtin;first
     | (refine xG rfl _ _ rfl w.heap.size _ _ rfl ho1 (X++⟨#[13,10]⟩) rfl (by rw[ByteArray.size_append];show _+(X.size+2)<= _;omega) hS2 ?_;intro v2 w2 ho2 hx2;have L3:=L2.trans (hx2.below ho1 (Nat.le_refl _) hS2);have hS3:=L3.size;have hr2:=hr1.below ((hx2.below ho1 (Nat.le_refl _) hS2).mono hB);rw[jL,HX.out,show(⟨#[13,10]⟩:ByteArray).data.toList= [13,10]from rfl]at ho2;have hXs:=HXs.out;have hq2:((ps.take k).flatMap nI++(eG 16 p.length++ [13,10])).length<= 1000000:=(by rw[List.length_append];omega);clear hXs)
     | (refine Ir rfl _ _ rfl w.heap.size _ _ rfl ho2 (Below.refl _ _) Ai p.length ci B rfl p hr2 (by omega) hS3 ?_;intro v3 w3 ho3 hx3;have L4:=L3.trans (hx3.below ho2 (Nat.le_refl _) hS3);have hS4:=L4.size)
     | (refine xG rfl _ _ rfl w.heap.size _ _ rfl ho3 ⟨#[13,10]⟩ rfl (by rw[List.length_append];show _+2<= _;omega) hS4 ?_;intro v4 w4 ho4 hx4))
    go_roundw
    case rel=>exact⟨k+1,by omega,by go_num,by rw[H2.out,HE.out];simpa [List.append_assoc] using ho4,L4.trans (hx4.below ho3 (Nat.le_refl _) hS4)⟩
    case measure=>simp[intOf];omega
  ·obtain rfl:k=n:=by omega
   have hfull:(ps.take k).flatMap nI=ps.flatMap nI:=by rw[List.take_of_length_le (by omega)]
   rw[hfull]at ho;clear hfull;go_wp2_with (at_builtin;refine xG rfl _ _ rfl w.heap.size _ _ rfl ho ⟨#[48,13,10,13,10]⟩ rfl (by show _+5<= _;omega) hS ?_;intro v2 w2 ho2 hx2)
   go_ret
   exact⟨_,rfl,ho2,L.trans (hx2.below ho (Nat.le_refl _) hS)⟩
def jZ (n:Nat):Int-> List Int-> Option Int
 |last,[]=>some last
 |last,a::l=>if a<= last\/ (n:Int)<a then none else jZ n a l
def AQ (n:Nat) (p:List Int):Bool:=
 match jZ n 0 p with
 |none=>false
 |some last=>decide (p= [])||decide (last=(n:Int))
def Dk (r:Rs):Bool:= !(decide (r.st<200)||decide (599<r.st)|| (decide (0<r.b.length)&&bW r.st))
def PY (l:List Fd):Bool:= !(decide ((lG [] l 0).2.1<l.length)||decide ((lG [] l 0).2.2≠0))
def uh (l:List Fd):Bool:=l.all fun f=> !lH f.1
def dh (r:Rs):Bool:=Dk r&& (PY r.f&& (uh r.f&&AQ r.b.length r.p))
def iF (b:Bs):Int-> List Int-> List Bs
 |_,[]=> []
 |at_,a::l=>(b.take a.toNat).drop at_.toNat::iF b a l
def rfL (f:Fd):Bs:=f.1++csB++f.2++crlf
def mG (l:List Fd):Bs:=l.flatMap rfL
def fF (r:Rs) (minor:Int):Bool:=decide (0<r.p.length)&&decide (0<minor)
def iT (st:Int):Bs:=PV++eG 10 st.toNat++ [32]++bH st++crlf
def dM (r:Rs) (minor:Int):Bs:=if bW r.st then []else if fF r minor then teS++crlf else clS++eG 10 r.b.length++crlf
def gX (minor:Int) (close:Bool):Bs:=if close then ccS++crlf else if minor<1 then ckS++crlf else []
def Ut (r:Rs) (minor:Int) (close:Bool):Bs:=iT r.st++mG r.f++dM r minor++gX minor close++crlf
def pG (r:Rs) (head:Bool) (minor:Int):Bs:=if head||bW r.st then []else if fF r minor then AO (iF r.b 0 r.p)else r.b
def vT (r:Rs) (head:Bool) (minor:Int) (close:Bool):Bs:=Ut r minor close++pG r head minor
def encR (r:Rs) (head:Bool) (minor:Int) (close:Bool):Bs×Int:=
 if dh r then(if 65536< (vT r head minor close).length then([],9)else(vT r head minor close,0))else([],1)
structure RsP where
 r:Rs
 af:Option Addr
 cf:Nat
 ab:Option Addr
 cb:Nat
 ap:Option Addr
 cp:Nat
abbrev rsW (x:RsP):Value:=.agg #[.int .i64 x.r.st,.slice x.af x.r.f.length x.cf,.slice x.ab x.r.b.length x.cb,.slice x.ap x.r.p.length x.cp]
structure RsR (w:World) (x:RsP):Prop where
 rf:Rd w w.heap.size 2 x.af x.r.f.length (aQ x.r.f)
 rb:Rd w w.heap.size 1 x.ab x.r.b.length (x.r.b.map bv)
 rp:Rd w w.heap.size 1 x.ap x.r.p.length (x.r.p.map fun i=>Value.int .i64 i)
 cf:x.r.f.length<= x.cf
 cb:x.r.b.length<= x.cb
 cp:x.r.p.length<= x.cp
theorem RsR.ah {w w':World} {x:RsP} (h:RsR w x) (hb:Below w.heap.size w w'):RsR w' x:=
 ⟨(h.rf.below hb).more hb.size,(h.rb.below hb).more hb.size,(h.rp.below hb).more hb.size,h.cf,h.cb,h.cp⟩
theorem oL (s:Bs) (w:World) (hs:s.length<= 1000000):
 Calls Tryz.prog 161 #[sv s] w fun e w'=>e= .returned (.bool (lH s))/\ Below w.heap.size w w':=by
 have h1:=fun w=>pY ⟨s.toArray⟩ ⟨teN.toArray⟩ w (by show s.length<= _;unfold maxLen;omega) (by decide)
 have h2:=fun w=>pY ⟨s.toArray⟩ ⟨clN.toArray⟩ w (by show s.length<= _;unfold maxLen;omega) (by decide)
 have h3:=fun w=>pY ⟨s.toArray⟩ ⟨coN.toArray⟩ w (by show s.length<= _;unfold maxLen;omega) (by decide)
 dsimp only at h1 h2 h3;have HO:=Lib.hid (show lH s=((dY s==dY teN)|| (dY s==dY clN)|| (dY s==dY coN))from rfl)
 generalize (dY s==dY teN)=b1 at*;generalize (dY s==dY clN)=b2 at*;generalize (dY s==dY coN)=b3 at*;generalize lH s=o at*;cases b1
 ·cases b2
  ·go_enter Tryz.func161,Tryz.ntmps161
   go_wp2_with fail
   refine(h1 _).mono ?_;rintro e w1 ⟨rfl,L1⟩;go_wp2_with fail
   refine(h2 _).mono ?_;rintro e w2 ⟨rfl,L2⟩;go_wp2_with fail
   refine(h3 _).mono ?_;rintro e w3 ⟨rfl,L3⟩;go_wp2
   go_ret
   exact⟨by rw[HO.out];rfl,stepW (stepW L1 L2) L3⟩
  ·go_enter Tryz.func161,Tryz.ntmps161
   go_wp2_with fail
   refine(h1 _).mono ?_;rintro e w1 ⟨rfl,L1⟩;go_wp2_with fail
   refine(h2 _).mono ?_;rintro e w2 ⟨rfl,L2⟩;go_wp2
   go_ret
   exact⟨by rw[HO.out];rfl,stepW L1 L2⟩
 ·go_enter Tryz.func161,Tryz.ntmps161
  go_wp2_with fail
  refine(h1 _).mono ?_;rintro e w1 ⟨rfl,L1⟩;go_wp2
  go_ret
  exact⟨by rw[HO.out];rfl,L1⟩
end Go.Proofs.YtdmondfpepbniaaGreatDoor
