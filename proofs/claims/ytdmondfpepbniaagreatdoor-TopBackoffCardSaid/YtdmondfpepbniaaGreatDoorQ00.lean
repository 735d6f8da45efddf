/- Part 0 of the proof: Plain. -/
import Derived.WalkKit
import Derived.PlainAid
import Derived.Lib.Hide
import Derived.Test.YtdmondfpepbniaaGreatDoorProg
import Derived.WalkSpells
import Derived.WalkLawsBesides
import Derived.Laws.CopyOwn
import Derived.Deep.Draws
import Derived.Lib.ConvBytes
import Derived.Lib.SlBytesConst
import Derived.WalkSmall
import Derived.Handy
namespace Go.Proofs.YtdmondfpepbniaaGreatDoor
open Go.RowKit
set_option maxRecDepth 100000
set_option maxHeartbeats 4000000
abbrev Bs:=List UInt8
abbrev bv (b:UInt8):Value:=.int .u8 (b.toNat:Int)
abbrev sv (l:Bs):Value:=.string ⟨l.toArray⟩
theorem fO {a b:Bool} (h:a=b):Ending.returned (.bool a)= .returned (.bool b):=by rw[h]
theorem retS {a b:Bs} (h:a=b):Ending.returned (sv a)= .returned (sv b):=by rw[h]
theorem notT {x:Bool} (h:(!x)=true):x=false:=by simpa using h
theorem notF {x:Bool} (h:(!x)=false):x=true:=by simpa using h
theorem CX (b:UInt8):(b.toNat:Int)<= 255:=by have:=b.toNat_lt;omega
theorem Ic {a b:UInt8} (h:a.toNat=b.toNat):a=b:=UInt8.toNat_inj.1 h
theorem ou (s:ByteArray):s=⟨s.data.toList.toArray⟩:=by cases s;rfl
theorem au (s:ByteArray):s.data.toList.length=s.size:=by cases s;rfl
theorem SK (s:ByteArray) (k:Nat) (h:k<s.size):s.data.toList[k]'(by rw[au];exact h)=s[k]:=rfl
theorem drop_cons (s:ByteArray) (k:Nat) (h:k<s.size):s.data.toList.drop k=s[k]::s.data.toList.drop (k+1):=by
 rw[List.drop_eq_getElem_cons (by rw[au];exact h),SK s k h]
theorem drop_end (s:ByteArray) (k:Nat) (h:s.size<= k):s.data.toList.drop k= []:=List.drop_of_length_le (by rw[au];exact h)
theorem dP (s:ByteArray) (k:Nat) (h:k<s.size): ∃b:UInt8,s.data.toList.drop k=b::s.data.toList.drop (k+1)/\ PlainAid.bt s k=(b.toNat:Int):=
 ⟨s[k],drop_cons s k h,(PlainAid.get_bt s k h).symm⟩
theorem pX (s:ByteArray) (a b:Nat):(s.extract a b).data.toList=(s.data.toList.drop a).take (b-a):=by
 simp[ByteArray.data_extract,Array.toList_extract,List.extract]
theorem iK (s:ByteArray) (a:Nat):(s.extract a s.size).data.toList=s.data.toList.drop a:=by
 rw[pX,List.take_of_length_le (by rw[List.length_drop,au];omega)]
theorem zG (s:ByteArray) (b:Nat):(s.extract 0 b).data.toList=s.data.toList.take b:=by
 rw[pX];simp
theorem ext_size (s:ByteArray) (a b:Nat) (h1:a<= b) (h2:b<= s.size):(s.extract a b).size=b-a:=by
 rw[<- au,pX,List.length_take,List.length_drop,au];omega
theorem jL (a b:ByteArray):(a++b).data.toList=a.data.toList++b.data.toList:=by
 simp[ByteArray.data_append]
theorem fQ {a b:ByteArray} (h:a.data.toList=b.data.toList):a=b:=by
 rw[ou a,ou b,h]
theorem SL {a b:ByteArray} (h:a.data.toList=b.data.toList):Ending.returned (.string a)= .returned (.string b):=by rw[fQ h]
def KH (c:Int):Int:=if 65<= c/\ c<= 90 then c+32 else c
def wY (c:Int):Bool:=(97<= c&&c<= 122)|| (65<= c&&c<= 90)|| (48<= c&&c<= 57)
def iC (c:Int):Bool:=c==9|| (32<= c&&c != 127)
def inL (c:Int) (l:Bs):Bool:=l.any fun b=>(b.toNat:Int)==c
def signs:Bs:= [33,35,36,37,38,39,42,43,45,46,94,95,96,124,126]
def zH (c:Int):Bool:=wY c||inL c signs
def allT (l:Bs):Bool:=l.all fun b=>zH b.toNat
def wZ (l:Bs):Bool:=l.all fun b=>iC b.toNat
def bD (c:Int):Int:=if 48<= c/\ c<= 57 then c-48 else if 97<= KH c/\ KH c<= 102 then KH c-87 else -1
def isB (b:UInt8):Bool:=b==9||b==32
def trimF (l:Bs):Bs:=l.dropWhile isB
def Ie (l:Bs):Bs:=(l.reverse.dropWhile isB).reverse
def bf (l:Bs):Bs:=Ie (trimF l)
structure Fr (S:Nat-> Prop) (w w':World):Prop where
 os:w'.os=w.os
 tape:w'.tape=w.tape
 output:w'.output=w.output
 size:w.heap.size<= w'.heap.size
 block: ∀k,k<w.heap.size-> ¬S k-> w'.heap[k]? = w.heap[k]?
namespace Fr
variable {S T:Nat-> Prop} {w w' w'':World}
theorem refl (S:Nat-> Prop) (w:World):Fr S w w:=⟨rfl,rfl,rfl,Nat.le_refl _,fun _ _ _=>rfl⟩
theorem trans (h:Fr S w w') (k:Fr T w' w'') (hT: ∀i,T i-> S i\/ w.heap.size<= i):Fr S w w'':=
 ⟨k.os.trans h.os,k.tape.trans h.tape,k.output.trans h.output,Nat.le_trans h.size k.size,fun i hi hs=>
   (k.block i (Nat.lt_of_lt_of_le hi h.size) (fun ht=>by rcases hT i ht with h1|h1;exact hs h1;omega)).trans (h.block i hi hs)⟩
theorem mono (h:Fr S w w') (hS: ∀i,S i-> T i\/ w.heap.size<= i):Fr T w w':=
 ⟨h.os,h.tape,h.output,h.size,fun i hi ht=>h.block i hi (fun hs=>by rcases hS i hs with h1|h1;exact ht h1;omega)⟩
theorem drew (h:Fr S w w'):Fr S w w'.drew:=⟨h.os,h.tape,h.output,h.size,h.block⟩
theorem drewN (h:Fr S w w') (n:Nat):Fr S w (w'.drewN n):=⟨h.os,h.tape,h.output,h.size,h.block⟩
theorem alloc (h:Fr S w w') (o:Obj):Fr S w (w'.alloc o):=
 ⟨h.os,h.tape,h.output,Nat.le_trans h.size (by simp),fun i hi hs=>(Below.heap_alloc w' o i (Nat.lt_of_lt_of_le hi h.size)).trans (h.block i hi hs)⟩
theorem setCell (h:Fr S w w') {p:Addr} (hp:S p.block\/ w.heap.size<= p.block) (u:Value):Fr S w (w'.setCell p u):=
 ⟨h.os,h.tape,h.output,by simpa [World.setCell] using h.size,fun i hi hs=>(Below.heap_setCell w' p u i (by rintro rfl;rcases hp with hp|hp;exact hs hp;omega)).trans (h.block i hi hs)⟩
theorem XG {row:Option Nat} (h:w.grownBy w' row):Fr (fun k=>some k=row) w w':=⟨h.os,h.tape,h.output,h.size,fun k hk hs=>h.block k hk hs⟩
theorem dB {B:Nat} (h:Below B w w'):Fr (fun k=>B<= k) w w':=⟨h.os,h.tape,h.output,h.size,fun k _ hs=>h.block k (by omega)⟩
theorem toBelow (h:Fr S w w') {B:Nat} (hB:B<= w.heap.size) (hS: ∀i,S i-> B<= i):Below B w w':=
 ⟨h.os,h.tape,h.output,h.size,fun k hk=>h.block k (by omega) (fun hs=>by have:=hS k hs;omega)⟩
theorem cell (h:Fr S w w') {p:Addr} (hp:p.block<w.heap.size) (hs: ¬S p.block):w'.cell? p=w.cell? p:=World.cell?_of_block (h.block p.block hp hs)
theorem frozen (h:Fr S w w') {p:Addr} (hp:p.block<w.heap.size) (hs: ¬S p.block):w'.frozen? p=w.frozen? p:=World.frozen?_of_block (h.block p.block hp hs)
end Fr
theorem below_drewN' {B:Nat} {a w:World} (h:Below B a w) (n:Nat):Below B a (w.drewN n):=⟨h.os,h.tape,h.output,h.size,h.block⟩
theorem gu (b o j:Nat):(⟨b,o,none⟩:Addr).add j=⟨b,o+j,none⟩:=by unfold Addr.add;split<;>simp_all
def Rd (w:World) (B size:Nat) (A:Option Addr) (n:Nat) (xs:List Value):Prop:=
 xs.length=n*size/\ (0<n-> ∃b o,A=some ⟨b,o,none⟩/\ b<B/\ ∀j u,xs[j]? = some u-> w.cell? ⟨b,o+j,none⟩=some u)
namespace Rd
variable {w w':World} {B B' size n:Nat} {A:Option Addr} {xs:List Value}
theorem nil (w:World) (B size:Nat) (A:Option Addr):Rd w B size A 0 []:=⟨by simp,fun h=>absurd h (Nat.lt_irrefl 0)⟩
theorem at_ (h:Rd w B size A n xs) (hn:0<n): ∃b o,A=some ⟨b,o,none⟩/\ b<B/\ ∀j u,xs[j]? = some u-> w.cell? ⟨b,o+j,none⟩=some u:=h.2 hn
theorem keep (h:Rd w B size A n xs) (hk: ∀p:Addr,p.block<B-> w'.cell? p=w.cell? p):Rd w' B size A n xs:=
 ⟨h.1,fun hn=>by obtain⟨b,o,e,hb,hc⟩:=h.2 hn;exact⟨b,o,e,hb,fun j u hu=>(hk ⟨b,o+j,none⟩ hb).trans (hc j u hu)⟩⟩
theorem more (h:Rd w B size A n xs) (hB:B<= B'):Rd w B' size A n xs:=⟨h.1,fun hn=>by obtain⟨b,o,e,hb,hc⟩:=h.2 hn;exact⟨b,o,e,by omega,hc⟩⟩
theorem below (h:Rd w B size A n xs) (hb:Below B w w'):Rd w' B size A n xs:=h.keep fun _ hp=>hb.cell hp
theorem drew (h:Rd w B size A n xs):Rd w.drew B size A n xs:=h
theorem drewN (h:Rd w B size A n xs) (k:Nat):Rd (w.drewN k) B size A n xs:=h
theorem alloc (h:Rd w B size A n xs) (hB:B<= w.heap.size) (o:Obj):Rd (w.alloc o) B size A n xs:=h.below ((Below.refl _ _).alloc hB o)
theorem cutFrom (h:Rd w B size A n xs) {k:Nat} (hk:k<= n):Rd w B size (A.map (·.add (k*size))) (n-k) (xs.drop (k*size)):=by
 refine⟨by rw[List.length_drop,h.1,Nat.sub_mul],fun hn=> ?_⟩
 obtain⟨b,o,rfl,hb,hc⟩:=h.2 (by omega)
 refine⟨b,o+k*size,by simp[gu],hb,fun j u hu=> ?_⟩
 rw[Nat.add_assoc];exact hc _ u (by rw[<- hu,List.getElem?_drop])
theorem zI (h:Rd w B size A n xs) {k:Nat} (hk:k<= n):Rd w B size A k (xs.take (k*size)):=by
 refine⟨by rw[List.length_take,h.1];exact Nat.min_eq_left (Nat.mul_le_mul_right _ hk),fun hn=> ?_⟩
 obtain⟨b,o,e,hb,hc⟩:=h.2 (by omega)
 refine⟨b,o,e,hb,fun j u hu=>hc j u ?_⟩
 rw[List.getElem?_take]at hu;split at hu
 ·exact hu
 ·cases hu
theorem new (w:World) (g:Nat) (hg:g=w.heap.size) (cs:List Value) (t:TypeId) (n size:Nat) (h:cs.length=n*size):Rd (w.alloc (.cells cs.toArray t)) (g+1) size (some ⟨g,0,none⟩) n cs:=
 ⟨h,fun _=>⟨g,0,rfl,by omega,fun j u hu=>by rw[World.cell?_alloc_at _ _ _ _ (by omega)];simpa using hu⟩⟩
end Rd
theorem bcell {W w1:World} (hb:Below W.heap.size W w1):(∀b o,b<W.heap.size-> w1.cell? ⟨b,o,none⟩=W.cell? ⟨b,o,none⟩)/\ (∀b o,b<W.heap.size-> w1.frozen? ⟨b,o,none⟩=W.frozen? ⟨b,o,none⟩):=
 ⟨fun b o h=>hb.cell (p:=⟨b,o,none⟩) h,fun b o h=>hb.frozen (p:=⟨b,o,none⟩) h⟩
def xg (fr:Nat×Nat) (k:Nat):Prop:=fr.2<= fr.1\/ k<= fr.1
def Own (w:World) (base:Nat) (e:TypeId) (size:Nat) (v:Value) (n:Nat) (xs:List Value):Prop:=
 xs.length=n*size/\
 ((v= .slice none 0 0/\ n=0)\/
  ∃g cap cur fr,v= .slice (some ⟨g,0,none⟩) n cap/\ base<= g/\ w.heap[g]? = some (.cells cur e fr)/\ xg fr (cap*size)/\ n<= cap/\ cap<= maxLen/\ cur.size=cap*size/\ cur.toList.take (n*size)=xs)
theorem iL (P:Program) (g o:Nat) (t:TypeId) (fr:Nat×Nat): ∀(vs:List Value) (i:Nat) (cur:Array Value) (w:World),w.heap[g]? = some (.cells cur t fr)-> xg fr cur.size-> o+i+vs.length<= cur.size->(∀v∈vs,v.oneCell'=true)->
 (storeCells ⟨g,o,none⟩ vs i).run P w= .ok () (w.setRow g (cur.toList.take (o+i)++vs++cur.toList.drop (o+i+vs.length)).toArray)
 | [],i,cur,w,hg,_,_,_=>by
  simp only[storeCells,List.append_nil,List.length_nil,Nat.add_zero,List.take_append_drop,Array.toArray_toList];rw[setRow_self w g cur t fr hg];rfl
 |v::rest,i,cur,w,hg,hfr,hl,h1=>by
  have hi:o+i<cur.size:=by simp at hl;omega
  have hadd:(⟨g,o,none⟩:Addr).add i=⟨g,o+i,none⟩:=by unfold Addr.add;split<;>simp_all
  have hcell:w.cell? ⟨g,o+i,none⟩=some cur[o+i]:=by simp[World.cell?,hg,hi]
  have hfro:w.frozen? ⟨g,o+i,none⟩=false:=by
   obtain⟨lo,hi'⟩:=fr;simp only[World.frozen?,hg];unfold xg at hfr;simp only at hfr;rw[Bool.and_eq_false_iff];rcases Nat.lt_or_ge (o+i) lo with h|h
   ·exact .inl (by simp;omega)
   ·exact .inr (by simp;omega)
  have hst:(store ((⟨g,o,none⟩:Addr).add i) v).run P w= .ok () (w.setRow g (cur.setIfInBounds (o+i) v)):=by
   rw[hadd,run_store P w _ v _ (h1 v (by simp)),hcell]
   simp[hfro,setCell_eq_setRow w g (o+i) cur t fr v hg]
  have ih:=iL P g o t fr rest (i+1) (cur.setIfInBounds (o+i) v) (w.setRow g (cur.setIfInBounds (o+i) v)) (setRow_heap w g cur _ t _ hg) (by simpa using hfr) (by simp at hl⊢;omega) (fun x hx=>h1 x (by simp[hx]))
  simp only[storeCells,Sem.run_bind,hst,Result.andThen_ok,ih,setRow_setRow];congr 3
  have e:=list_seg_step cur.toList (o+i) v rest (by simp at hl⊢;omega)
  simpa [Array.toList_setIfInBounds,Nat.add_assoc] using e
namespace Own
variable {w w':World} {base e size:Nat} {v:Value} {n:Nat} {xs:List Value}
theorem nil (w:World) (base:Nat) (e:TypeId) (size:Nat):Own w base e size (.slice none 0 0) 0 []:=⟨by simp,.inl ⟨rfl,rfl⟩⟩
theorem of (h:w.ownsRow base e size v n xs):Own w base e size v n xs:=
 ⟨h.1,h.2.imp id fun⟨g,cap,cur,h1,h2,h3,h4,h5,h6,h7⟩=>⟨g,cap,cur,(0,0),h1,h2,h3,.inl (Nat.le_refl _),h4,h5,h6,h7⟩⟩
theorem lt (h:Own w base e size v n xs): ∀k,v.ownBlock=some k-> base<= k/\ k<w.heap.size:=by
 intro k hk;rcases h.2 with⟨rfl,_⟩| ⟨g,cap,cur,fr,rfl,hb,hg,_⟩
 ·simp[Value.ownBlock]at hk
 ·simp[Value.ownBlock]at hk
  subst hk;exact⟨hb,(Array.getElem?_eq_some_iff.1 hg).1⟩
theorem keep (h:Own w base e size v n xs) (hk: ∀k,v.ownBlock=some k-> w'.heap[k]? = w.heap[k]?):Own w' base e size v n xs:=by
 refine⟨h.1,?_⟩;rcases h.2 with hn| ⟨g,cap,cur,fr,rfl,hb,hg,rest⟩
 ·exact .inl hn
 ·exact .inr ⟨g,cap,cur,fr,rfl,hb,by rw[hk g (by simp[Value.ownBlock])];exact hg,rest⟩
theorem fr {S:Nat-> Prop} (h:Own w base e size v n xs) (hf:Fr S w w') (hs: ∀k,v.ownBlock=some k-> ¬S k):Own w' base e size v n xs:=
 h.keep fun k hk=>hf.block k (h.lt k hk).2 (hs k hk)
theorem grown {row:Option Nat} (h:Own w base e size v n xs) (hg:w.grownBy w' row) (hne:v.ownBlock=none\/ v.ownBlock≠row):Own w' base e size v n xs:=
 h.keep fun k hk=>hg.block k (h.lt k hk).2 (fun e=>by rcases hne with h1|h1;rw[h1]at hk;cases hk;exact h1 (hk.trans e))
theorem below {B:Nat} (h:Own w base e size v n xs) (hb:Below B w w') (hB: ∀k,v.ownBlock=some k-> k<B):Own w' base e size v n xs:=
 h.keep fun k hk=>hb.block k (hB k hk)
theorem alloc (h:Own w base e size v n xs) (o:Obj):Own (w.alloc o) base e size v n xs:=h.keep fun k hk=>Below.heap_alloc w o k (h.lt k hk).2
theorem drew (h:Own w base e size v n xs):Own w.drew base e size v n xs:=h
theorem drewN (h:Own w base e size v n xs) (m:Nat):Own (w.drewN m) base e size v n xs:=h
theorem vC {base':Nat} (h:Own w base e size v n xs) (hb:base'<= base):Own w base' e size v n xs:=
 ⟨h.1,h.2.imp id fun⟨g,cap,cur,fr,h1,h2,r⟩=>⟨g,cap,cur,fr,h1,by omega,r⟩⟩
theorem rd (h:Own w base e size v n xs): ∃A c,v= .slice A n c/\ n<= c/\ c<= maxLen/\ Rd w w.heap.size size A n xs/\ (A=none-> c=0):=by
 rcases h.2 with⟨rfl,rfl⟩| ⟨g,cap,cur,fr,rfl,hb,hg,hfr,hnc,hcm,hcs,htk⟩
 ·exact⟨none,0,rfl,Nat.le_refl _,Nat.zero_le _,⟨h.1,fun h=>absurd h (Nat.lt_irrefl 0)⟩,fun _=>rfl⟩
 ·refine⟨some ⟨g,0,none⟩,cap,rfl,hnc,hcm,⟨h.1,fun _=>⟨g,0,rfl,(Array.getElem?_eq_some_iff.1 hg).1,fun j u hu=> ?_⟩⟩,by simp⟩
  rw[Nat.zero_add,cell_of_row w g j cur e fr hg];rw[<- htk,List.getElem?_take]at hu;split at hu
  ·simpa using hu
  ·cases hu
theorem form (h:Own w base e size v n xs) (hn:0<n): ∃g cap,v= .slice (some ⟨g,0,none⟩) n cap/\ base<= g/\ g<w.heap.size/\ n<= cap:=by
 rcases h.2 with⟨_,h0⟩| ⟨g,cap,cur,fr,hv,hb,hg,_,hnc,_⟩
 ·omega
 ·exact⟨g,cap,hv,hb,(Array.getElem?_eq_some_iff.1 hg).1,hnc⟩
theorem cellAt {g cap:Nat} (h:Own w base e size (.slice (some ⟨g,0,none⟩) n cap) n xs) (j:Nat) (hj:j<n*size):w.cell? ⟨g,j,none⟩=xs[j]? /\ w.frozen? ⟨g,j,none⟩=false:=by
 rcases h.2 with⟨h',_⟩| ⟨g',cap',cur,fr,h',hb,hg,hfr,hnc,hcm,hcs,htk⟩
 ·simp at h'
 ·simp only[Value.slice.injEq,Option.some.injEq,Addr.mk.injEq,and_true,true_and]at h'
  obtain⟨rfl,rfl⟩:=h';have hjc:j<cap*size:=Nat.lt_of_lt_of_le hj (Nat.mul_le_mul_right _ hnc);refine⟨?_,?_⟩
  ·rw[cell_of_row w g j cur e fr hg,<- htk,List.getElem?_take,if_pos hj];simp
  ·obtain⟨lo,hi⟩:=fr
   simp only[World.frozen?,hg];unfold xg at hfr;simp only at hfr;rw[Bool.and_eq_false_iff];rcases Nat.lt_or_ge j lo with h|h
   ·exact .inl (by simp;omega)
   ·exact .inr (by simp;omega)
theorem stored {g cap:Nat} (h:Own w base e size (.slice (some ⟨g,0,none⟩) n cap) n xs) (j:Nat) (u:Value):
 Own (w.setCell ⟨g,j,none⟩ u) base e size (.slice (some ⟨g,0,none⟩) n cap) n (xs.set j u)/\ w.grownBy (w.setCell ⟨g,j,none⟩ u) (some g):=by
 rcases h.2 with⟨h',_⟩| ⟨g',cap',cur,fr,h',hb,hg,hfr,hnc,hcm,hcs,htk⟩
 ·simp at h'
 ·simp only[Value.slice.injEq,Option.some.injEq,Addr.mk.injEq,and_true,true_and]at h'
  obtain⟨rfl,rfl⟩:=h'
  refine⟨⟨by simpa using h.1,.inr ⟨g,cap,cur.setIfInBounds j u,fr,rfl,hb,?_,hfr,hnc,hcm,by simpa using hcs,?_⟩⟩,
   ⟨rfl,rfl,rfl,by simp[World.setCell],fun k _ hk=>Below.heap_setCell w ⟨g,j,none⟩ u k (fun e=>hk (by simp[e]))⟩⟩
  ·simp[World.setCell,Array.getElem?_modify,hg]
  ·rw[Array.toList_setIfInBounds,<- htk,List.take_set]
theorem cut (h:Own w base e size v n xs) {k:Nat} (hk:k<= n) (hv:0<n): ∃g cap,v= .slice (some ⟨g,0,none⟩) n cap/\ Own w base e size (.slice (some ⟨g,0,none⟩) k cap) k (xs.take (k*size)):=by
 rcases h.2 with⟨_,h0⟩| ⟨g,cap,cur,fr,hv',hb,hg,hfr,hnc,hcm,hcs,htk⟩
 ·omega
 ·refine⟨g,cap,hv',by rw[List.length_take,h.1];exact Nat.min_eq_left (Nat.mul_le_mul_right _ hk),.inr ⟨g,cap,cur,fr,rfl,hb,hg,hfr,by omega,hcm,hcs,?_⟩⟩
  rw[<- htk,List.take_take,Nat.min_eq_left (Nat.mul_le_mul_right _ hk)]
end Own
structure Src (P:Program) (w:World) (size:Nat) (x:Value) (m:Nat) (news:List Value):Prop where
 len: ∀w,(Builtin.lenOf x).run P w= .ok m w
 here:(Builtin.firstCells size m x).run P w= .ok news.toArray w
 drew:(Builtin.firstCells size m x).run P w.drew= .ok news.toArray w.drew
 one: ∀u∈news,u.oneCell'=true
 long:news.length=m*size
theorem Src.fB {P:Program} {w:World} {B size:Nat} {A:Option Addr} {m c:Nat} {news:List Value} (h:Rd w B size A m news) (h1: ∀u∈news,u.oneCell'=true):Src P w size (.slice A m c) m news:=by
 have key: ∀w0:World,Rd w0 B size A m news->(Builtin.firstCells size m (.slice A m c)).run P w0= .ok news.toArray w0:=by
  intro w0 h;rcases Nat.eq_zero_or_pos m with rfl|hm
  ·have hn:news= []:=List.eq_nil_of_length_eq_zero (by simpa using h.1)
   subst hn;cases A with
   |none=>simp[Builtin.firstCells]
   |some a=>simp[Builtin.firstCells,loadCells,loadCellsFrom]
  ·obtain⟨b,o,rfl,_,hc⟩:=h.2 hm
   exact run_firstCells_some w0 size m ⟨b,o,none⟩ m c news h.1 (fun j u hu=>by rw[gu];exact hc j u hu)
 exact⟨fun w=>by simp[Builtin.lenOf],key w h,key _ h.drew,h1,h.1⟩
theorem Src.of_string {P:Program} {w:World} (l:Bs):Src P w 1 (sv l) l.length (l.map bv):=by
 have key: ∀w0:World,(Builtin.firstCells 1 l.length (sv l)).run P w0= .ok (l.map bv).toArray w0:=by
  intro w0;simp[Builtin.firstCells,ByteArray.extract_mk]
 exact⟨fun w=>by simp[Builtin.lenOf,ByteArray.size],key w,key _,fun u hu=>by obtain⟨b,_,rfl⟩:=List.mem_map.1 hu;rfl,by simp⟩
theorem gy {P:Program} (w:World) (base:Nat) (t xt ty e:TypeId) (i:TypeInfo) (z:Value) (size bytes:Nat) (ht:P.underlying t=some (.slice e))
 (hxt:P.underlying xt=some (.slice e)\/ P.underlying xt=some .string) (hi:P.info? e=some i) (hz:i.zero=some z)
 (hsize:i.size=size) (hby:i.bytes=bytes) (hzs:z.cells.size=size) (_hsz:0<size)
 (v:Value) (n:Nat) (xs:List Value) (hown:Own w base e size v n xs) (x:Value) (m:Nat) (news:List Value) (hx:Src P w size x m news)
 (h63:n+m<= maxLen) (hbytes:(n+m)*bytes<= 140737488355328) (hbase:base<= w.heap.size):
 ∃v' w',(Builtin.append_ #[t,xt] ty #[v,x]).run P w= .ok v' w'/\ Own w' base e size v' (n+m) (xs++news)/\ w.grownBy w' v.ownBlock/\
  (v'.ownBlock=v.ownBlock\/ v'.ownBlock=some w.heap.size):=by
 subst hsize;subst hby;have hsmall: ¬(9223372036854775807< (n:Int)+(m:Int)):=by simp only[maxLen]at h63;omega
 have hlen:(xs++news).length=(n+m)*i.size:=by rw[List.length_append,hown.1,hx.long,Nat.add_mul]
 have hl:=hx.len;have hh:=hx.here;have hd:=hx.drew;have grown: ∀(old:Nat),old<n+m-> ∀(row:Option Nat),
  Own (w.drew.alloc (.cells (xs.toArray++news.toArray++Builtin.zeroCells z.cells (grownCap w (n+m) old e- (n+m))) e)) base e i.size
   (.slice (some ⟨w.heap.size,0,none⟩) (n+m) (grownCap w (n+m) old e)) (n+m) (xs++news)/\
  w.grownBy (w.drew.alloc (.cells (xs.toArray++news.toArray++Builtin.zeroCells z.cells (grownCap w (n+m) old e- (n+m))) e)) row:=by
  intro old ho row;have hge:=grownCap_ge w (n+m) old e;have hcm:grownCap w (n+m) old e<= maxLen:=grownCap_le_maxLen w (n+m) old e h63;refine⟨⟨hlen,.inr ⟨w.heap.size,_,_,(0,0),rfl,hbase,heap_alloc_new w.drew _,.inl (Nat.le_refl _),hge,hcm,?_,?_⟩⟩,⟨rfl,rfl,rfl,by simp,fun k hk _=>Below.heap_alloc w.drew _ k hk⟩⟩
  ·simp only[Array.size_append,List.size_toArray,size_zeroCells,hzs,hown.1,hx.long,<- Nat.add_mul]
   congr 1
   omega
  ·simp only[Array.toList_append,List.append_assoc]
   rw[<- List.append_assoc,<- hlen];exact List.take_left
 have hxt': ∀w0:World,(do pure ((<- underlying xt) matches .int _):Sem Bool).run P w0= .ok false w0:=by
  intro w0;rcases hxt with h|h<;>simp[run_underlying h]
 rcases hown.2 with⟨rfl,rfl⟩| ⟨g,cap,cur,fr,rfl,hbg,hg,hfr,hnc,hcm,hcs,htake⟩
 ·have hx0:xs= []:=List.eq_nil_of_length_eq_zero (by simpa using hown.1)
  subst hx0;by_cases hm:m=0
  ·subst hm
   have hn:news= []:=List.eq_nil_of_length_eq_zero (by simpa using hx.long)
   subst hn;refine⟨.slice none 0 0,w,?_,Own.nil w base e i.size,⟨rfl,rfl,rfl,Nat.le_refl _,fun _ _ _=>rfl⟩,.inl rfl⟩
   rcases hxt with h|h<;>simp[Builtin.append_,run_underlying ht,run_underlying h,sizeOf,typeInfo,hi,hl,hh]
  ·have h48': ¬(281474976710656<Builtin.nextslicecap m 0*i.bytes):=by rw[nextslicecap_zero (by omega)];simp only[Nat.zero_add]at hbytes;omega
   have hgr:=grown 0 (by omega) (Value.ownBlock (.slice none 0 0))
   simp only[Nat.zero_add,List.nil_append,Array.empty_append]at hgr hsmall⊢;have hs': ¬(9223372036854775807< (m:Int)):=by simp at hsmall;omega
   refine⟨_,_,?_,hgr.1,hgr.2,.inr rfl⟩;rcases hxt with h|h<;>simp[Builtin.append_,run_underlying ht,run_underlying h,sizeOf,typeInfo,zeroValue,hi,hz,hl,hd,hm,hs',h48',Question.forced,run_firstCells_none,newRow,grownCap]
 ·by_cases hroom:n+m<= cap
  ·have hfit:n*i.size+news.length<= cur.size:=by rw[hx.long,hcs,<- Nat.add_mul];exact Nat.mul_le_mul_right _ hroom
   have hst:=iL P g (n*i.size) e fr news 0 cur w hg (by rw[hcs];exact hfr) (by simpa using hfit) hx.one
   simp only[Nat.add_zero]at hst
   refine⟨.slice (some ⟨g,0,none⟩) (n+m) cap,w.setRow g (cur.toList.take (n*i.size)++news++cur.toList.drop (n*i.size+news.length)).toArray,?_,
    ⟨hlen,.inr ⟨g,cap,_,fr,rfl,hbg,setRow_heap w g cur _ e _ hg,hfr,hroom,hcm,?_,?_⟩⟩,
    ⟨rfl,rfl,rfl,by simp[World.setRow],fun k _ hk=>setRow_other w g k _ (fun e=>hk (by simp[Value.ownBlock,e]))⟩,.inl rfl⟩
   ·rcases hxt with h|h<;>simp[Builtin.append_,run_underlying ht,run_underlying h,sizeOf,typeInfo,hi,hl,hh,hroom,Addr.add_lit,hst]
   ·simp only[List.size_toArray,List.length_append,List.length_take,List.length_drop,Array.length_toList]
    omega
   ·rw[htake,<- hlen]
    exact List.take_left
  ·have hn': ¬(n+m<= cap):=hroom
   have h48': ¬(281474976710656<Builtin.nextslicecap (n+m) cap*i.bytes):=by have:=growslice_fits (need:=n+m) (old:=cap) (by omega) hbytes;omega
   have hold:(Builtin.firstCells i.size n (.slice (some ⟨g,0,none⟩) n cap)).run P w.drew= .ok xs.toArray w.drew:=by
    refine run_firstCells_some w.drew i.size n ⟨g,0,none⟩ n cap xs hown.1 (fun j u hu=> ?_)
    rw[gu,Nat.zero_add];show w.cell? ⟨g,j,none⟩=some u;rw[cell_of_row w g j cur e fr hg];rw[<- htake,List.getElem?_take]at hu;split at hu
    ·simpa using hu
    ·cases hu
   have hgr:=grown cap (by omega) (Value.ownBlock (.slice (some ⟨g,0,none⟩) n cap))
   refine⟨_,_,?_,hgr.1,hgr.2,.inr rfl⟩;have e3:(xs.toArray++news.toArray++Builtin.zeroCells z.cells (grownCap w (n+m) cap e- (n+m)))=xs.toArray++(news.toArray++Builtin.zeroCells z.cells (grownCap w (n+m) cap e- (n+m))):=by rw[Array.append_assoc]
   rcases hxt with h|h<;>simp[Builtin.append_,run_underlying ht,run_underlying h,sizeOf,typeInfo,zeroValue,hi,hz,hl,hd,hn',hsmall,h48',hold,Question.forced,newRow,grownCap]
   all_goals (congr 2;apply Array.ext';simp)
theorem aJ {P:Program} (w:World) {ops:Array Oper} {rest:List Oper} {o:Oper} {a:Act} {Q:Exit-> Act-> World-> Prop} (hgd:o.guard=none) (s x:Operand) (t xt:TypeId)
 (ho:o.op= .call { callee:=.builtin .append,args:=#[s,x],argTypes:=#[t,xt] })
 (base:Nat) (e:TypeId) (i:TypeInfo) (z:Value) (size bytes:Nat) (ht:P.underlying t=some (.slice e)) (hxt:P.underlying xt=some (.slice e)\/ P.underlying xt=some .string) (hi:P.info? e=some i) (hz:i.zero=some z)
 (hsize:i.size=size) (hby:i.bytes=bytes) (hzs:z.cells.size=size) (hsz:0<size)
 (v:Value) (n:Nat) (xs:List Value) (hs:a.eval s=v) (hown:Own w base e size v n xs) (xv:Value) (m:Nat) (news:List Value) (hx:a.eval x=xv) (hr:Src P w size xv m news)
 (h63:n+m<= maxLen) (hbytes:(n+m)*bytes<= 140737488355328) (hbase:base<= w.heap.size)
 (h: ∀v' w',Own w' base e size v' (n+m) (xs++news)-> w.grownBy w' v.ownBlock->(v'.ownBlock=v.ownBlock\/ v'.ownBlock=some w.heap.size)-> wpList P ops Q rest (a.put o.dst v') w'):wpList P ops Q (o::rest) a w:=
 wpList_plain hgd fun K hK=>by
  obtain⟨v',w',hrun,h2,h3,h4⟩:=gy (P:=P) w base t xt o.type e i z size bytes ht hxt hi hz hsize hby hzs hsz v n xs hown xv m news hr h63 hbytes hbase;unfold Oper.wp execOp;simp only[ho,resolve,invoke,builtin,Sem.run_bind,Sem.run_pure,Result.andThen_ok,List.map_toArray,List.map_cons,List.map_nil,hs,hx,hrun];exact hK _ _ (h v' w' h2 h3 h4)
theorem Fp (l:Bs):strOfNums (l.map fun b=>(b.toNat:Int))=⟨l.toArray⟩:=by
 unfold strOfNums;congr 1
 rw[List.map_map];have:(l.map ((fun n:Int=>UInt8.ofNat n.toNat) ∘ fun b:UInt8=>(b.toNat:Int)))=l:=by
  rw[List.map_congr_left (g:=id) (fun b _=>by simp),List.map_id]
 rw[this]
theorem iD {P:Program} {w:World} {B n:Nat} {A:Option Addr} {l:Bs} (h:Rd w B 1 A n (l.map bv)) (c:Nat) (src e dst:TypeId)
 (hs:P.underlying src=some (.slice e)) (he:P.underlying e=some (.int .u8)) (hd:P.underlying dst=some .string):
 (convert src dst (.slice A n c)).run P w= .ok (sv l) w:=by
 have hl:l.length=n:=by simpa using h.1
 rcases Nat.eq_zero_or_pos n with h0|h0
 ·subst h0
  obtain rfl:l= []:=List.eq_nil_of_length_eq_zero hl;cases A with
  |none=>exact run_convert_bytes_nil w src e hs he 0 c dst hd
  |some a=>
   rw[run_convert_bytes_string w src dst e _ 0 c hs he hd];simp[Conv.bytesToString,loadCells,loadCellsFrom];rfl
 ·obtain⟨b,o,rfl,_,hc⟩:=h.2 h0
  rw[run_convert_bytes_arg w src e hs he b o n c (l.map fun b=>(b.toNat:Int)) (by simpa using hl) (fun i hi=> ?_) dst hd,Fp]
  have hi':i<l.length:=by omega
  exact hc i _ (by simp[List.getD,hi'])
theorem kL {P:Program} (src e dst:TypeId) (hs:P.underlying src=some (.slice e)) (he:P.underlying e=some (.int .u8)) (hd:P.underlying dst=some .string) (W:World) (b:UInt8):
 (convert src dst (.slice (some ⟨W.heap.size,0,none⟩) 1 1)).run P (W.alloc (.cells #[.int .u8 (b.toNat:Int)] e))= .ok (.string ⟨#[b]⟩) (W.alloc (.cells #[.int .u8 (b.toNat:Int)] e)):=by
 refine iD (l:= [b]) (B:=W.heap.size+1) ⟨by simp,fun _=>⟨W.heap.size,0,rfl,by omega,fun j u hu=> ?_⟩⟩ 1 src e dst hs he hd
 rw[World.cell?_alloc_at _ _ _ _ rfl]
 match j,hu with
 |0,hu=>simpa using hu
theorem iM {P:Program} (w:World) {ops:Array Oper} {rest:List Oper} {o:Oper} {a:Act} {Q:Exit-> Act-> World-> Prop} (hgd:o.guard=none) (x:Operand) (src dst:TypeId)
 (ho:o.op= .convert src dst x) (e:TypeId) (base:Nat) (s:ByteArray) (hx:a.eval x= .string s)
 (hs:P.underlying src=some .string) (hd:P.underlying dst=some (.slice e)) (he:P.underlying e=some (.int .u8)) (hl:s.size<= maxLen) (hb:base<= w.heap.size)
 (h: ∀cap w',s.size<= cap-> Own w' base e 1 (.slice (some ⟨w.heap.size,0,none⟩) s.size cap) s.size (s.data.toList.map bv)-> w.grownBy w' none-> w.heap.size<w'.heap.size-> wpList P ops Q rest (a.put o.dst (.slice (some ⟨w.heap.size,0,none⟩) s.size cap)) w'):
 wpList P ops Q (o::rest) a w:=
 wpList_plain hgd fun K hK=>by
  have hrun:=Lib.run_convert_string_bytes (P:=P) w src dst e s hs hd he;have hge:=grownCap_ge w s.size 0 e;have hcm:grownCap w s.size 0 e<= maxLen:=grownCap_le_maxLen w s.size 0 e hl;have hcells:(Lib.bytesCells w e s).size=grownCap w s.size 0 e:=by
   simp only[Lib.bytesCells,Array.size_append,Array.size_map,Array.size_replicate];have:s.data.size=s.size:=rfl;omega
  have hown:Own (Lib.bytesWorld w e s) base e 1 (.slice (some ⟨w.heap.size,0,none⟩) s.size (grownCap w s.size 0 e)) s.size (s.data.toList.map bv):=by
   refine⟨by simp,.inr ⟨w.heap.size,_,_,_,rfl,hb,Lib.bytesWorld_at_new w e s,.inr (by rw[hcells];omega),hge,hcm,by rw[hcells];omega,?_⟩⟩
   simp only[Lib.bytesCells,Array.toList_append,Array.toList_map,Nat.mul_one];rw[List.take_append_of_le_length (by simp),List.take_of_length_le (by simp)]
  have hg:w.grownBy (Lib.bytesWorld w e s) none:=
   ⟨rfl,rfl,rfl,by rw[Lib.bytesWorld_size];omega,fun k hk _=>Lib.bytesWorld_at_old w e s k hk⟩
  unfold Oper.wp execOp;simp only[ho,hx,Sem.run_bind,Sem.run_pure,Result.andThen_ok,hrun];exact hK _ _ (h _ _ hge hown hg (by rw[Lib.bytesWorld_size];omega))
theorem jY {P:Program} (w:World) {ops:Array Oper} {rest:List Oper} {o:Oper} {a:Act} {Q:Exit-> Act-> World-> Prop} (hgd:o.guard=none) (x:Operand) (src dst:TypeId)
 (ho:o.op= .convert src dst x) (e:TypeId) (hs:P.underlying src=some (.slice e)) (he:P.underlying e=some (.int .u8)) (hd:P.underlying dst=some .string)
 (A:Option Addr) (n c B:Nat) (l:Bs) (hx:a.eval x= .slice A n c) (hr:Rd w B 1 A n (l.map bv)) (h:wpList P ops Q rest (a.put o.dst (sv l)) w):
 wpList P ops Q (o::rest) a w:=
 wpList_plain hgd fun K hK=>by
  have hrun:=iD (P:=P) hr c src e dst hs he hd;unfold Oper.wp execOp;simp only[ho,hx,Sem.run_bind,Sem.run_pure,Result.andThen_ok,hrun];exact hK _ _ h
theorem OQ (l:Bs) (f:UInt8-> UInt8) (k:Nat) (b:UInt8) (r:Bs) (hl:l.drop k=b::r) (hk:k<l.length):
 (((l.take k).map f++l.drop k).map bv).set k (bv (f b))=((l.take (k+1)).map f++l.drop (k+1)).map bv:=by
 have h1:l.take (k+1)=l.take k++ [b]:=by
  rw[List.take_succ_eq_append_getElem hk];congr 2
  rw[List.drop_eq_getElem_cons hk]at hl;exact(List.cons.inj hl).1
 have h2:l.drop (k+1)=r:=by
  rw[List.drop_eq_getElem_cons hk]at hl;exact(List.cons.inj hl).2
 rw[h1,h2,hl,List.map_append,List.map_append,List.set_append_right _ _ (by simp;omega)]
 rw[show k- (List.map bv (List.map f (l.take k))).length=0 by simp;omega]
 simp
theorem OT (l:Bs) (f:UInt8-> UInt8) (k:Nat) (b:UInt8) (r:Bs) (hl:l.drop k=b::r) (hk:k<l.length) (hf:f b=b):
 ((l.take k).map f++l.drop k).map bv=((l.take (k+1)).map f++l.drop (k+1)).map bv:=by
 have h1:l.take (k+1)=l.take k++ [b]:=by
  rw[List.take_succ_eq_append_getElem hk];congr 2
  rw[List.drop_eq_getElem_cons hk]at hl;exact(List.cons.inj hl).1
 have h2:l.drop (k+1)=r:=by
  rw[List.drop_eq_getElem_cons hk]at hl;exact(List.cons.inj hl).2
 rw[h1,h2,hl];simp[hf]
def Blk (w:World) (g:Nat) (t:TypeId) (cs:Array Value):Prop:=w.heap[g]? = some (.cells cs t (0,0))
namespace Blk
variable {w w':World} {g:Nat} {t:TypeId} {cs:Array Value}
theorem lt (h:Blk w g t cs):g<w.heap.size:=(Array.getElem?_eq_some_iff.1 h).1
theorem cell (h:Blk w g t cs) (i:Nat):w.cell? ⟨g,i,none⟩=cs[i]? := cell_of_row w g i cs t (0,0) h
theorem frozen (h:Blk w g t cs) (i:Nat):w.frozen? ⟨g,i,none⟩=false:=by
 unfold Blk at h;simp[World.frozen?,h]
theorem new (w:World) (t:TypeId) (cs:Array Value):Blk (w.alloc (.cells cs t)) w.heap.size t cs:=heap_alloc_new w _
theorem new' (w:World) (g:Nat) (hg:g=w.heap.size) (t:TypeId) (cs:Array Value):Blk (w.alloc (.cells cs t)) g t cs:=hg▸heap_alloc_new w _
theorem drew (h:Blk w g t cs):Blk w.drew g t cs:=h
theorem drewN (h:Blk w g t cs) (n:Nat):Blk (w.drewN n) g t cs:=h
theorem alloc (h:Blk w g t cs) (o:Obj):Blk (w.alloc o) g t cs:=(Below.heap_alloc w o g h.lt).trans h
theorem ay (h:Blk w g t cs) (i:Nat) (u:Value):Blk (w.setCell ⟨g,i,none⟩ u) g t (cs.setIfInBounds i u):=by
 unfold Blk at h⊢;simp[World.setCell,Array.getElem?_modify,h]
theorem far (h:Blk w g t cs) {p:Addr} (hp:g≠p.block) (u:Value):Blk (w.setCell p u) g t cs:=(Below.heap_setCell w p u g hp).trans h
theorem below {B:Nat} (h:Blk w g t cs) (hb:Below B w w') (hg:g<B):Blk w' g t cs:=(hb.block g hg).trans h
theorem ah (h:Blk w g t cs) (hb:Below w.heap.size w w'):Blk w' g t cs:=(hb.block g h.lt).trans h
theorem fr {S:Nat-> Prop} (h:Blk w g t cs) (hf:Fr S w w') (hg: ¬S g):Blk w' g t cs:=(hf.block g h.lt hg).trans h
theorem grown {row:Option Nat} (h:Blk w g t cs) (hb:w.grownBy w' row) (hg:some g≠row):Blk w' g t cs:=(hb.block g h.lt hg).trans h
end Blk
theorem jr {w w':World} (h:w.grownBy w' (Value.ownBlock (.slice none 0 0))):Below w.heap.size w w':=(Below.refl _ _).grown h (Nat.le_refl _) (by simp[Value.ownBlock])
theorem Blk.c1 {w:World} {g:Nat} {t:TypeId} {a0:Value} (h:Blk w g t #[a0]):w.cell? ⟨g,0,none⟩=some a0/\ w.frozen? ⟨g,0,none⟩=false:=
 ⟨h.cell 0,h.frozen 0⟩
theorem Blk.c2 {w:World} {g:Nat} {t:TypeId} {a0 a1:Value} (h:Blk w g t #[a0,a1]):w.cell? ⟨g,0,none⟩=some a0/\ w.cell? ⟨g,1,none⟩=some a1/\ w.frozen? ⟨g,0,none⟩=false/\ w.frozen? ⟨g,1,none⟩=false:=
 ⟨h.cell 0,h.cell 1,h.frozen 0,h.frozen 1⟩
theorem Blk.c3 {w:World} {g:Nat} {t:TypeId} {a0 a1 a2:Value} (h:Blk w g t #[a0,a1,a2]):w.cell? ⟨g,0,none⟩=some a0/\ w.cell? ⟨g,1,none⟩=some a1/\ w.cell? ⟨g,2,none⟩=some a2/\ w.frozen? ⟨g,0,none⟩=false/\ w.frozen? ⟨g,1,none⟩=false/\ w.frozen? ⟨g,2,none⟩=false:=
 ⟨h.cell 0,h.cell 1,h.cell 2,h.frozen 0,h.frozen 1,h.frozen 2⟩
theorem Blk.c4 {w:World} {g:Nat} {t:TypeId} {a0 a1 a2 a3:Value} (h:Blk w g t #[a0,a1,a2,a3]):w.cell? ⟨g,0,none⟩=some a0/\ w.cell? ⟨g,1,none⟩=some a1/\ w.cell? ⟨g,2,none⟩=some a2/\ w.cell? ⟨g,3,none⟩=some a3/\ w.frozen? ⟨g,0,none⟩=false/\ w.frozen? ⟨g,1,none⟩=false/\ w.frozen? ⟨g,2,none⟩=false/\ w.frozen? ⟨g,3,none⟩=false:=
 ⟨h.cell 0,h.cell 1,h.cell 2,h.cell 3,h.frozen 0,h.frozen 1,h.frozen 2,h.frozen 3⟩
theorem Blk.c5 {w:World} {g:Nat} {t:TypeId} {a0 a1 a2 a3 a4:Value} (h:Blk w g t #[a0,a1,a2,a3,a4]):w.cell? ⟨g,0,none⟩=some a0/\ w.cell? ⟨g,1,none⟩=some a1/\ w.cell? ⟨g,2,none⟩=some a2/\ w.cell? ⟨g,3,none⟩=some a3/\ w.cell? ⟨g,4,none⟩=some a4/\ w.frozen? ⟨g,0,none⟩=false/\ w.frozen? ⟨g,1,none⟩=false/\ w.frozen? ⟨g,2,none⟩=false/\ w.frozen? ⟨g,3,none⟩=false/\ w.frozen? ⟨g,4,none⟩=false:=
 ⟨h.cell 0,h.cell 1,h.cell 2,h.cell 3,h.cell 4,h.frozen 0,h.frozen 1,h.frozen 2,h.frozen 3,h.frozen 4⟩
theorem Blk.c6 {w:World} {g:Nat} {t:TypeId} {a0 a1 a2 a3 a4 a5:Value} (h:Blk w g t #[a0,a1,a2,a3,a4,a5]):w.cell? ⟨g,0,none⟩=some a0/\ w.cell? ⟨g,1,none⟩=some a1/\ w.cell? ⟨g,2,none⟩=some a2/\ w.cell? ⟨g,3,none⟩=some a3/\ w.cell? ⟨g,4,none⟩=some a4/\ w.cell? ⟨g,5,none⟩=some a5/\ w.frozen? ⟨g,0,none⟩=false/\ w.frozen? ⟨g,1,none⟩=false/\ w.frozen? ⟨g,2,none⟩=false/\ w.frozen? ⟨g,3,none⟩=false/\ w.frozen? ⟨g,4,none⟩=false/\ w.frozen? ⟨g,5,none⟩=false:=
 ⟨h.cell 0,h.cell 1,h.cell 2,h.cell 3,h.cell 4,h.cell 5,h.frozen 0,h.frozen 1,h.frozen 2,h.frozen 3,h.frozen 4,h.frozen 5⟩
theorem Blk.c7 {w:World} {g:Nat} {t:TypeId} {a0 a1 a2 a3 a4 a5 a6:Value} (h:Blk w g t #[a0,a1,a2,a3,a4,a5,a6]):w.cell? ⟨g,0,none⟩=some a0/\ w.cell? ⟨g,1,none⟩=some a1/\ w.cell? ⟨g,2,none⟩=some a2/\ w.cell? ⟨g,3,none⟩=some a3/\ w.cell? ⟨g,4,none⟩=some a4/\ w.cell? ⟨g,5,none⟩=some a5/\ w.cell? ⟨g,6,none⟩=some a6/\ w.frozen? ⟨g,0,none⟩=false/\ w.frozen? ⟨g,1,none⟩=false/\ w.frozen? ⟨g,2,none⟩=false/\ w.frozen? ⟨g,3,none⟩=false/\ w.frozen? ⟨g,4,none⟩=false/\ w.frozen? ⟨g,5,none⟩=false/\ w.frozen? ⟨g,6,none⟩=false:=
 ⟨h.cell 0,h.cell 1,h.cell 2,h.cell 3,h.cell 4,h.cell 5,h.cell 6,h.frozen 0,h.frozen 1,h.frozen 2,h.frozen 3,h.frozen 4,h.frozen 5,h.frozen 6⟩
theorem Blk.c8 {w:World} {g:Nat} {t:TypeId} {a0 a1 a2 a3 a4 a5 a6 a7:Value} (h:Blk w g t #[a0,a1,a2,a3,a4,a5,a6,a7]):w.cell? ⟨g,0,none⟩=some a0/\ w.cell? ⟨g,1,none⟩=some a1/\ w.cell? ⟨g,2,none⟩=some a2/\ w.cell? ⟨g,3,none⟩=some a3/\ w.cell? ⟨g,4,none⟩=some a4/\ w.cell? ⟨g,5,none⟩=some a5/\ w.cell? ⟨g,6,none⟩=some a6/\ w.cell? ⟨g,7,none⟩=some a7/\ w.frozen? ⟨g,0,none⟩=false/\ w.frozen? ⟨g,1,none⟩=false/\ w.frozen? ⟨g,2,none⟩=false/\ w.frozen? ⟨g,3,none⟩=false/\ w.frozen? ⟨g,4,none⟩=false/\ w.frozen? ⟨g,5,none⟩=false/\ w.frozen? ⟨g,6,none⟩=false/\ w.frozen? ⟨g,7,none⟩=false:=
 ⟨h.cell 0,h.cell 1,h.cell 2,h.cell 3,h.cell 4,h.cell 5,h.cell 6,h.cell 7,h.frozen 0,h.frozen 1,h.frozen 2,h.frozen 3,h.frozen 4,h.frozen 5,h.frozen 6,h.frozen 7⟩
theorem Blk.c9 {w:World} {g:Nat} {t:TypeId} {a0 a1 a2 a3 a4 a5 a6 a7 a8:Value} (h:Blk w g t #[a0,a1,a2,a3,a4,a5,a6,a7,a8]):w.cell? ⟨g,0,none⟩=some a0/\ w.cell? ⟨g,1,none⟩=some a1/\ w.cell? ⟨g,2,none⟩=some a2/\ w.cell? ⟨g,3,none⟩=some a3/\ w.cell? ⟨g,4,none⟩=some a4/\ w.cell? ⟨g,5,none⟩=some a5/\ w.cell? ⟨g,6,none⟩=some a6/\ w.cell? ⟨g,7,none⟩=some a7/\ w.cell? ⟨g,8,none⟩=some a8/\ w.frozen? ⟨g,0,none⟩=false/\ w.frozen? ⟨g,1,none⟩=false/\ w.frozen? ⟨g,2,none⟩=false/\ w.frozen? ⟨g,3,none⟩=false/\ w.frozen? ⟨g,4,none⟩=false/\ w.frozen? ⟨g,5,none⟩=false/\ w.frozen? ⟨g,6,none⟩=false/\ w.frozen? ⟨g,7,none⟩=false/\ w.frozen? ⟨g,8,none⟩=false:=
 ⟨h.cell 0,h.cell 1,h.cell 2,h.cell 3,h.cell 4,h.cell 5,h.cell 6,h.cell 7,h.cell 8,h.frozen 0,h.frozen 1,h.frozen 2,h.frozen 3,h.frozen 4,h.frozen 5,h.frozen 6,h.frozen 7,h.frozen 8⟩
def jM (base:Int):Bs-> Int-> Option Int
 | [],n=>some n
 |b::r,n=>if bD b.toNat<0\/ base<= bD b.toNat then none else jM base r (n*base+bD b.toNat)
def dA (base:Int) (most:Nat) (l:Bs):Option Int:=if l.length<1\/ most<l.length then none else jM base l 0
def CY (o:Option Int):Value:=.tuple #[.int .i64 (o.getD 0),.bool o.isSome]
theorem zJ (n:Int) (base k:Nat) (d:Int) (h:n< (base:Int) ^ k) (hd:d<base) (hb:0<=(base:Int)):n*base+d< (base:Int) ^ (k+1):=by
 rw[Int.pow_succ];have:(n+1)*(base:Int)<=(base:Int) ^ k*(base:Int):=Int.mul_le_mul_of_nonneg_right (by omega) hb
 rw[Int.add_mul]at this;omega
theorem SN (n:Int) (base k m:Nat) (h:n< (base:Int) ^ k) (hk:k<= m) (hb:1<= base):n< (base:Int) ^ m:=by
 have h1:base ^ k<= base ^ m:=Nat.pow_le_pow_right hb hk;have h2:((base ^ k:Nat):Int)<=((base ^ m:Nat):Int):=by omega
 rw[Int.natCast_pow,Int.natCast_pow]at h2;omega
theorem SQ (n:Int) (k:Nat) (h:n< (16:Int) ^ k) (hk:k<= 11):n<17592186044416:=by
 have:=SN n 16 k 11 (by simpa using h) hk (by omega)
 simpa using this
theorem vF (c:Int) (h0:0<= c) (h1:c<= 255):bD c<= 15:=by
 unfold bD KH;split<;>(try split)<;>(try split)<;>omega
def low (b:UInt8):UInt8:=if 65<= b.toNat/\ b.toNat<= 90 then UInt8.ofNat (b.toNat+32)else b
theorem XH (b:UInt8):KH b.toNat=((low b).toNat:Int):=by
 unfold KH low;by_cases h:65<= b.toNat/\ b.toNat<= 90
 ·rw[if_pos (by omega),if_pos h,UInt8.toNat_ofNat_of_lt' (by simp[UInt8.size];omega)];omega
 ·rw[if_neg (by omega),if_neg h]
def dY (l:Bs):Bs:=l.map low
def hexs:Bs:= [48,49,50,51,52,53,54,55,56,57,97,98,99,100,101,102]
def dch (d:Nat):UInt8:=hexs.getD d 0
def OU (b:Nat):Nat-> Nat-> Bs
 |0,_=> []
 |f+1,u=>if u / b=0 then [dch (u % b)]else OU b f (u / b)++ [dch (u % b)]
theorem OV (b:Nat) (hb:2<= b): ∀(f g u:Nat),u<f-> u<g-> OU b f u=OU b g u:=by
 intro f
 induction f with
 |zero=>intro g u h;omega
 |succ f ih=>
  intro g u h1 h2;cases g with
  |zero=>omega
  |succ g=>
   simp only[OU];split
   ·rfl
   ·rename_i h
    have hlt:u / b<u:=Nat.div_lt_self (by rcases Nat.eq_zero_or_pos u with h0|h0;subst h0;simp at h;exact h0) (by omega)
    rw[ih g (u / b) (by omega) (by omega)]
def eG (b u:Nat):Bs:=OU b (u+1) u
theorem jv (b u:Nat) (hb:2<= b):eG b u=if u / b=0 then [dch (u % b)]else eG b (u / b)++ [dch (u % b)]:=by
 unfold eG;rw[OU];split
 ·rfl
 ·rename_i h
  have hlt:u / b<u:=Nat.div_lt_self (by rcases Nat.eq_zero_or_pos u with h0|h0;subst h0;simp at h;exact h0) (by omega)
  rw[OV b hb u (u / b+1) (u / b) hlt (by omega)]
theorem XI:(Tryz.prog.info? 5).map (fun i=>(i.zero,i.size,i.bytes))=some (some (.int .u8 0),1,1):=by kernel_rfl
theorem stepW {a w w':World} (L:Below a.heap.size a w) (hb:Below w.heap.size w w'):Below a.heap.size a w':=L.trans (hb.mono L.size)
theorem aj {a w:World} (L:Below a.heap.size a w) (o:Obj):Below a.heap.size a (w.alloc o):=L.alloc L.size o
theorem setW {a w:World} (L:Below a.heap.size a w) {p:Addr} (hp:a.heap.size<= p.block) (u:Value):Below a.heap.size a (w.setCell p u):=L.setCell hp u
theorem DC {a w w':World} {row:Option Nat} (L:Below a.heap.size a w) (hg:w.grownBy w' row) (hr: ∀k,row=some k-> a.heap.size<= k):Below a.heap.size a w':=L.grown hg L.size hr
theorem jJ {w w':World} (h:w.grownBy w' none):Below w.heap.size w w':=(Below.refl _ _).grown h (Nat.le_refl _) (by simp)
theorem Own.ah {w w':World} {base e size n:Nat} {v:Value} {xs:List Value} (h:Own w base e size v n xs) (hb:Below w.heap.size w w'):Own w' base e size v n xs:=
 h.below hb fun k hk=>(h.lt k hk).2
theorem Own.far {w:World} {base e size n:Nat} {v:Value} {xs:List Value} (h:Own w base e size v n xs) {p:Addr} (hp: ∀k,v.ownBlock=some k-> k≠p.block) (u:Value):Own (w.setCell p u) base e size v n xs:=
 h.keep fun k hk=>Below.heap_setCell w p u k (hp k hk)
theorem Rd.ah {w w':World} {B size n:Nat} {A:Option Addr} {xs:List Value} (h:Rd w B size A n xs) (hB:B<= w.heap.size) (hb:Below w.heap.size w w'):Rd w' B size A n xs:=h.below (hb.mono hB)
theorem Rd.far {w:World} {B size n:Nat} {A:Option Addr} {xs:List Value} (h:Rd w B size A n xs) {p:Addr} (hp:B<= p.block) (u:Value):Rd (w.setCell p u) B size A n xs:=
 h.below ((Below.refl B w).setCell hp u)
theorem SS {α:Type} {Q:α-> Prop} {p:Prop} [Decidable p] {a b:α} (ha:Q a) (hb:Q b):Q (if p then a else b):=by split<;>assumption
theorem Own.rdS {w:World} {base e size n c:Nat} {A:Option Addr} {xs:List Value} (h:Own w base e size (.slice A n c) n xs):n<= c/\ c<= maxLen/\ Rd w w.heap.size size A n xs:=by
 obtain⟨A',c',e',h1,h2,h3,_⟩:=h.rd;injection e' with e1 e2 e3
 subst e1;subst e3;exact⟨h1,h2,h3⟩
end Go.Proofs.YtdmondfpepbniaaGreatDoor
