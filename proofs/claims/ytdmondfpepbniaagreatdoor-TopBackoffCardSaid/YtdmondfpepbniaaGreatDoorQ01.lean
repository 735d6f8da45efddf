/- Part 1 of the proof: Ascii TPlain Hex End. -/
import Derived.Test.YtdmondfpepbniaaGreatDoorShelf
import Derived.Shelf.Strings.SlTrimAscii
import Derived.Lib.Join
import Derived.Lib.SmallJoins
import Derived.Lib.Atoi
import Derived.Deep.CutRange
import Derived.Deep.DeepCutAuto
import Derived.ProofKit
import Derived.OpenShut
import Derived.Below
import Derived.ChangeSame
import Derived.ChangeStays
import Derived.ReadAgain
import Derived.Deep.DeepHandedRow
import Derived.Deep.DeepWitnessRowRef
import Derived.Lib.LaidTab
import Derived.Lay
import Derived.Stop.LaidErr
import Derived.Test.YtdmondfpepbniaaGreatDoorQ00
namespace Go.Proofs.YtdmondfpepbniaaGreatDoor
open Go.RowKit
set_option maxRecDepth 100000
set_option maxHeartbeats 4000000
def OW (c:Int):Bool:=(65<= c&&c<= 90)|| (97<= c&&c<= 122)
theorem Fq (c:Int) (w:World) (h0:0<= c) (h1:c<= 255):
 Calls Tryz.prog 218 #[.int .u8 c] w fun e w'=>e= .returned (.bool (OW c))/\ w=w':=by
 go_enter Tryz.func218,Tryz.ntmps218
 go_wp2
 all_goals (go_ret;exact⟨fO (by rw[Bool.eq_iff_iff];simp[OW];try omega),rfl⟩)
theorem jw (s:ByteArray) (w:World) (hs:s.size<= maxLen):
 Calls Tryz.prog 256 #[.string s] w fun e w'=>e= .returned (sv (dY s.data.toList))/\ Below w.heap.size w w':=by
 have hs':=hs;unfold maxLen at hs;go_enter Tryz.func256,Tryz.ntmps256
 go_wp2_with (refine iM _ rfl _ 9 33 rfl 5 w.heap.size s rfl Tryz.underlying9 Tryz.underlying33 Tryz.underlying5 hs' (Nat.le_refl _) ?_;intro cap w1 hcap ho1 hg1 hz1)
 have hb1:Below w.heap.size w w1:=(Below.refl _ _).grown hg1 (Nat.le_refl _) (by simp)
 have Ig:Own w1 w.heap.size 5 1 (.slice (some ⟨w.heap.size,0,none⟩) s.size cap) s.size (((s.data.toList.take 0).map low++s.data.toList.drop 0).map bv):=by simpa using ho1
 clear hg1 hz1 ho1;go_loopw [10] (fun i wr=> ∃k:Nat,k<= s.size/\ i= .int .i64 k/\ Own wr w.heap.size 5 1 (.slice (some ⟨w.heap.size,0,none⟩) s.size cap) s.size (((s.data.toList.take k).map low++s.data.toList.drop k).map bv)/\ Below w.heap.size w wr) (fun i _=>s.size- (intOf i).toNat)
 case atStart=>exact⟨0,Nat.zero_le _,rfl,Ig,hb1⟩
 case round=>
  obtain⟨k,hk,rfl,ho,hb⟩:=hrel;clear Ig hb1;by_cases hlt:k<s.size
  ·obtain⟨b,hd,hbt⟩:=dP s k hlt
   have Hd:=Lib.hid hd;clear hd;have hc:=(ho.cellAt k (by omega)).1
   have hf:=(ho.cellAt k (by omega)).2
   have hc2:wr.cell? ⟨w.heap.size,k,none⟩=some (bv b):=by
    rw[hc,Hd.out];simp[Nat.min_eq_left hk]
   clear hc;have hlen:k<s.data.toList.length:=by rw[au];exact hlt
   by_cases hu:65<=(b.toNat:Int)/\ (b.toNat:Int)<= 90
   ·have hl:=XH b
    have hlow:(low b).toNat=b.toNat+32:=by unfold KH at hl;rw[if_pos hu]at hl;omega
    have Hl:=Lib.hid hlow;clear hl hlow;obtain⟨hu1,hu2⟩:=hu;go_wp2
    go_roundw
    case rel=>
     have hst:=ho.stored k (bv (low b));rw[OQ s.data.toList low k b _ Hd.out hlen]at hst;have e2:(bv (low b))=Value.int .u8 ((b.toNat:Int)+97-65):=by unfold bv;rw[Hl.out];congr 1;omega
     rw[e2]at hst;exact⟨k+1,by omega,by go_num,hst.1,hb.grown hst.2 hb.size (fun j hj=>by cases hj;exact Nat.le_refl _)⟩
    case measure=>simp[intOf];omega
   ·have hlow:low b=b:=by unfold low;rw[if_neg (by omega)]
    have hs:=OT s.data.toList low k b _ Hd.out hlen hlow;rw[hs]at ho;have hb8:=CX b;clear hs;go_wp2
    all_goals
     go_roundw
     case rel=>exact⟨k+1,by omega,by go_num,ho,hb⟩
     case measure=>simp[intOf];omega
  ·obtain rfl:k=s.size:=by omega
   obtain⟨A,c,e,_,_,hr,_⟩:=ho.rd;injection e with e1 e2 e3
   subst e1;subst e3;rw[List.take_of_length_le (by rw[au];exact Nat.le_refl _),drop_end s _ (Nat.le_refl _),List.append_nil]at hr
   go_wp2_with (refine jY _ rfl _ 33 9 rfl 5 Tryz.underlying33 Tryz.underlying5 Tryz.underlying9 _ _ _ _ _ rfl hr ?_)
   go_ret
   exact⟨rfl,hb⟩
theorem pY (a b:ByteArray) (w:World) (ha:a.size<= maxLen) (hb:b.size<= maxLen):
 Calls Tryz.prog 204 #[.string a,.string b] w fun e w'=>e= .returned (.bool (dY a.data.toList==dY b.data.toList))/\ Below w.heap.size w w':=by
 go_enter Tryz.func204,Tryz.ntmps204
 go_wp2_with fail
 refine(jw a _ ha).mono ?_;rintro e w1 ⟨rfl,h1⟩;go_wp2_with fail
 refine(jw b _ hb).mono ?_;rintro e w2 ⟨rfl,h2⟩;go_wp2
 go_ret
 exact⟨rfl,h1.trans (h2.mono h1.size)⟩
theorem vG {α:Type} (p:α-> Bool) (a b:List α):(a++b).dropWhile p=if a.dropWhile p= []then b.dropWhile p else a.dropWhile p++b:=by
 induction a with
 |nil=>simp
 |cons x a ih=>
  simp only[List.cons_append,List.dropWhile_cons];by_cases h:p x=true
  ·simp only[h,if_true];exact ih
  ·simp[h]
theorem zK (p:UInt8-> Bool) (a:UInt8) (t:Bs):((a::t).reverse.dropWhile p).reverse=if(t.reverse.dropWhile p).reverse= []/\ p a=true then []else a::(t.reverse.dropWhile p).reverse:=by
 rw[List.reverse_cons,vG];by_cases h:t.reverse.dropWhile p= []
 ·by_cases h':p a=true<;>simp[h,h']
 ·simp[h]
theorem DF (p:UInt8-> Bool) (l:Bs):((l.reverse.dropWhile p).reverse).dropWhile p=((l.dropWhile p).reverse.dropWhile p).reverse:=by
 induction l with
 |nil=>rfl
 |cons a t ih=>
  rw[zK];by_cases ha:p a=true
  ·rw[List.dropWhile_cons_of_pos ha,<- ih]
   by_cases h:(t.reverse.dropWhile p).reverse= []
   ·rw[if_pos ⟨h,ha⟩,h]
   ·rw[if_neg (fun hh=>h hh.1),List.dropWhile_cons_of_pos ha]
  ·rw[if_neg (fun hh=>ha hh.2),List.dropWhile_cons_of_neg ha,List.dropWhile_cons_of_neg ha,zK,if_neg (fun hh=>ha hh.2)]
theorem SX (l:Bs):Lib.trimS l [9,32]=bf l:=by
 have e:(fun b:UInt8=>([9,32]:Bs).contains b)=isB:=by
  funext b
  cases h1:(b==9)<;>cases h2:(b==32)<;>simp[isB,List.contains,List.elem,h1,h2]
 unfold Lib.trimS Lib.trimLeftS Lib.trimRightS bf Ie trimF;rw[e,DF]
theorem qh (s:ByteArray) (w:World) (hs:s.size<= maxLen):
 Calls Tryz.prog 172 #[.string s] w fun e w'=>e= .returned (sv (bf s.data.toList))/\ Below w.heap.size w w':=by
 go_enter Tryz.func172,Tryz.ntmps172
 go_wp2_with fail
 refine(Any.strings_Trim_laid Tryz.lays160 (by kernel_rfl) s ⟨#[9,32]⟩ _ hs (by decide) (ascii_of_all (by decide))).mono ?_
 rintro e w' ⟨rfl,hb⟩;go_wp2
 go_ret
 exact⟨by rw[<- SX];rfl,hb⟩
theorem DI (xs:List Bs):Lib.join xs []=xs.flatten:=by
 induction xs with
 |nil=>rfl
 |cons x r ih=>
  rw[Lib.join_cons,List.flatten_cons];congr 1
  unfold Lib.joinTail;congr 1
  exact(List.map_congr_left fun a _=>by simp).trans (List.map_id r)
theorem vH (A:Option Addr) (n c B:Nat) (xs:List ByteArray) (w:World) (hB:B<= w.heap.size) (hr:Rd w B 1 A n (xs.map Value.string)) (hc:n<= c) (hlen:(xs.map (·.data.toList)).flatten.length<= 140737488355328) (hn:n<= 140737488355328):
 Calls Tryz.prog 29 #[.slice A n c] w fun e w'=>e= .returned (sv (xs.map (·.data.toList)).flatten)/\ Below w.heap.size w w':=by
 have hl:xs.length=n:=by simpa using hr.1
 rcases Nat.eq_zero_or_pos n with h0|h0
 ·subst h0
  obtain rfl:xs= []:=List.eq_nil_of_length_eq_zero hl;go_enter Tryz.func29,Tryz.ntmps29
  go_wp2_with fail
  refine(Tryz.strings_Join_none A c ⟨#[]⟩ _).mono ?_;rintro e w' ⟨rfl,rfl⟩;go_wp2
  go_ret
  exact⟨rfl,Below.refl _ _⟩
 ·obtain⟨b,o,rfl,hb,hcell⟩:=hr.2 h0
  subst hl;have hJ:=Tryz.strings_Join b o c xs ⟨#[]⟩ w (fun j x hx=>hcell j _ (by simp[hx])) (by omega) hn hc (by rw[show(⟨#[]⟩:ByteArray).data.toList= []from rfl,DI];exact hlen)
  rw[show(⟨#[]⟩:ByteArray).data.toList= []from rfl,DI]at hJ
  have HJ:=Lib.hid hJ;clear hJ hlen hn hc hcell hr hB;go_enter Tryz.func29,Tryz.ntmps29
  go_wp2_with fail
  refine HJ.out.mono ?_;rintro e w' ⟨rfl,hb⟩;go_wp2
  go_ret
  exact⟨rfl,hb⟩
theorem KI (l:Bs) (c:UInt8):(0<= Lib.indexByte l c)↔l.contains c=true:=by
 induction l with
 |nil=>simp[Lib.indexByte]
 |cons b l ih=>
  have hge:=Lib.indexByte_ge l c;simp only[Lib.indexByte];by_cases h:(b==c)=true
  ·have hm:b=c:=beq_iff_eq.1 h
   subst hm;simp
  ·rw[if_neg h]
   have h':(c==b)=false:=by rw[Bool.eq_false_iff];intro hh;exact h (by rw[beq_iff_eq]at hh⊢;exact hh.symm)
   rw[List.contains_cons,h',Bool.false_or,<- ih];by_cases h2:Lib.indexByte l c= -1
   ·rw[h2];simp
   ·rw[if_neg (by simpa using h2)];omega
def Fv:Bs:= [48,49,50,51,52,53,54,55,56,57]++signs
theorem ZL (b:UInt8):zH b.toNat=(OW b.toNat||Fv.contains b):=by
 have: ∀x:Fin 256,zH ((UInt8.ofNat x.val).toNat:Int)=(OW ((UInt8.ofNat x.val).toNat:Int)||Fv.contains (UInt8.ofNat x.val)):=by decide +kernel
 have h:=this ⟨b.toNat,b.toNat_lt⟩;simpa using h
theorem SY (b:UInt8) (w:World):
 Calls Tryz.prog 217 #[.int .u8 (b.toNat:Int)] w fun e w'=>e= .returned (.bool (zH b.toNat))/\ w=w':=by
 have h1:=CX b;have hi:=KI Fv b;have Hi:=Lib.hid hi;clear hi;have Ht:=Lib.hid (ZL b);go_enter Tryz.func217,Tryz.ntmps217
 go_wp2_with (first
  | (go_at_call 218;refine(Fq _ _ (by omega) h1).mono ?_;rintro e w' ⟨rfl,rfl⟩)
  | (go_at_call 219;refine(Tryz.strings_IndexByte _ _ _).mono ?_;rintro e w' ⟨rfl,rfl⟩))
 ·go_ret
  exact⟨fO (by rw[Ht.out];simp[*]),rfl⟩
 ·go_ret
  exact⟨fO (by
   rw[Ht.out,Bool.eq_iff_iff];have:=Hi.out;have hl:OW b.toNat=false:=by simpa using ‹¬OW (b.toNat:Int)=true›
   rw[hl,Bool.false_or,<- this]
   simp[Fv,signs]),rfl⟩
theorem Tc (c:Int) (w:World) (_h0:0<= c) (_h1:c<= 255):
 Calls Tryz.prog 214 #[.int .u8 c] w fun e w'=>e= .returned (.bool (iC c))/\ w=w':=by
 go_enter Tryz.func214,Tryz.ntmps214
 go_wp2
 all_goals (go_ret;exact⟨fO (by rw[Bool.eq_iff_iff];simp[iC];try omega),rfl⟩)
theorem Td (s:ByteArray) (w:World) (hs:s.size<= maxLen):
 Calls Tryz.prog 213 #[.string s,.func (.func 217) #[] #[]] w fun e w'=>e= .returned (.bool (allT s.data.toList))/\ w=w':=by
 unfold maxLen at hs;go_enter Tryz.func213,Tryz.ntmps213
 go_wp2
 go_loop [8] (fun i=> ∃k:Nat,k<= s.size/\ i= .int .i64 k/\ Hid (allT s.data.toList=allT (s.data.toList.drop k))) (fun i=>s.size- (intOf i).toNat)
 case atStart=>exact⟨0,Nat.zero_le _,rfl,rfl⟩
 case round=>
  obtain⟨k,hk,rfl,H⟩:=hrel;by_cases hlt:k<s.size
  ·obtain⟨b,hb,hbt⟩:=dP s k hlt
   have Hb:=Lib.hid hb;clear hb;have hbs:=PlainAid.get_bt s;go_wp2_with (go_at_call 217;refine(SY _ _).mono ?_;rintro e w' ⟨rfl,rfl⟩)
   ·have ht:=notT ‹(!zH (b.toNat:Int))=true›
    go_ret
    exact⟨fO (by rw[H.out,Hb.out,allT,List.all_cons,ht];rfl),rfl⟩
   ·have ht:=notF ‹(!zH (b.toNat:Int))=false›
    go_round
    case rel=>exact⟨k+1,by omega,by go_num,by rw[H.out,Hb.out,allT,List.all_cons,ht];rfl⟩
    case measure=>simp[intOf];omega
  ·go_wp2
   go_ret
   exact⟨fO (by rw[H.out,drop_end s k (by omega)];simp[allT]),rfl⟩
theorem Tf (s:ByteArray) (w:World) (hs:s.size<= maxLen):
 Calls Tryz.prog 213 #[.string s,.func (.func 214) #[] #[]] w fun e w'=>e= .returned (.bool (wZ s.data.toList))/\ w=w':=by
 unfold maxLen at hs;go_enter Tryz.func213,Tryz.ntmps213
 go_wp2
 go_loop [8] (fun i=> ∃k:Nat,k<= s.size/\ i= .int .i64 k/\ Hid (wZ s.data.toList=wZ (s.data.toList.drop k))) (fun i=>s.size- (intOf i).toNat)
 case atStart=>exact⟨0,Nat.zero_le _,rfl,rfl⟩
 case round=>
  obtain⟨k,hk,rfl,H⟩:=hrel;by_cases hlt:k<s.size
  ·obtain⟨b,hb,hbt⟩:=dP s k hlt
   have Hb:=Lib.hid hb;clear hb;have hbs:=PlainAid.get_bt s;go_wp2_with (go_at_call 214;refine(Tc _ _ (by omega) (CX _)).mono ?_;rintro e w' ⟨rfl,rfl⟩)
   ·have ht:=notT ‹(!iC (b.toNat:Int))=true›
    go_ret
    exact⟨fO (by rw[H.out,Hb.out,wZ,List.all_cons,ht];rfl),rfl⟩
   ·have ht:=notF ‹(!iC (b.toNat:Int))=false›
    go_round
    case rel=>exact⟨k+1,by omega,by go_num,by rw[H.out,Hb.out,wZ,List.all_cons,ht];rfl⟩
    case measure=>simp[intOf];omega
  ·go_wp2
   go_ret
   exact⟨fO (by rw[H.out,drop_end s k (by omega)];simp[wZ]),rfl⟩
theorem gG (s:ByteArray) (w:World) (hs:s.size<= maxLen):
 Calls Tryz.prog 176 #[.string s] w fun e w'=>e= .returned (.bool (allT s.data.toList&&decide (0<s.data.toList.length)))/\ w=w':=by
 rcases Nat.eq_zero_or_pos s.size with h0|h0
 ·have hl:s.data.toList= []:=List.eq_nil_of_length_eq_zero (by rw[au];exact h0)
  obtain rfl:s=⟨#[]⟩:=fQ hl;go_enter Tryz.func176,Tryz.ntmps176
  go_wp2
  go_ret
  exact⟨rfl,rfl⟩
 ·have hne:s.toList.isEmpty=false:=by
   rw[ByteArray.toList_eq,List.isEmpty_eq_false_iff];intro h;rw[<- au,h]at h0;simp at h0
  have hd:decide (0<s.data.toList.length)=true:=by simp[h0]
  have Hd:=Lib.hid hd;clear hd;go_enter Tryz.func176,Tryz.ntmps176
  go_wp2_with (go_at_call 213;refine(Td s _ hs).mono ?_;rintro e w' ⟨rfl,rfl⟩)
  go_ret
  exact⟨fO (by rw[Hd.out,Bool.and_true]),rfl⟩
theorem lM (s:ByteArray) (w:World) (hs:s.size<= maxLen):
 Calls Tryz.prog 171 #[.string s] w fun e w'=>e= .returned (.bool (wZ s.data.toList))/\ w=w':=by
 go_enter Tryz.func171,Tryz.ntmps171
 go_wp2_with (go_at_call 213;refine(Tf s _ hs).mono ?_;rintro e w' ⟨rfl,rfl⟩)
 go_ret
 exact⟨rfl,rfl⟩
theorem dropWhile_nil {p:UInt8-> Bool} {l:Bs} :l.dropWhile p= []↔l.all p=true:=by
 induction l with
 |nil=>simp
 |cons a l ih=>
  by_cases h:p a=true
  ·rw[List.dropWhile_cons_of_pos h,ih];simp[h]
  ·rw[List.dropWhile_cons_of_neg h];simp[h]
theorem DJ (l cs:Bs):Lib.trimS l cs= []↔l.all (cs.contains ·)=true:=by
 unfold Lib.trimS Lib.trimLeftS Lib.trimRightS;rw[DF,List.reverse_eq_nil_iff,dropWhile_nil,List.all_reverse];constructor
 ·intro h
  by_cases h2:l.dropWhile (fun x=>cs.contains x)= []
  ·exact dropWhile_nil.1 h2
  ·exfalso
   obtain⟨a,r,hr⟩:=List.exists_cons_of_ne_nil h2;have hh:=List.head_dropWhile_not (fun x=>cs.contains x) h2
   rw[hr,List.all_cons,Bool.and_eq_true]at h;simp only[hr,List.head_cons]at hh;rw[h.1]at hh;cases hh
 ·intro h
  rw[dropWhile_nil.2 h];rfl
def Ih:Bs:= [48,49,50,51,52,53,54,55,56,57]
def hexS:Bs:=Ih++ [97,98,99,100,101,102,65,66,67,68,69,70]
theorem NM (b:UInt8):Ih.contains b=decide (0<= bD b.toNat/\ bD b.toNat<10):=by
 have: ∀x:Fin 256,Ih.contains (UInt8.ofNat x.val)=decide (0<= bD ((UInt8.ofNat x.val).toNat:Int)/\ bD ((UInt8.ofNat x.val).toNat:Int)<10):=by decide +kernel
 have h:=this ⟨b.toNat,b.toNat_lt⟩;simpa using h
theorem XJ (b:UInt8):hexS.contains b=decide (0<= bD b.toNat/\ bD b.toNat<16):=by
 have: ∀x:Fin 256,hexS.contains (UInt8.ofNat x.val)=decide (0<= bD ((UInt8.ofNat x.val).toNat:Int)/\ bD ((UInt8.ofNat x.val).toNat:Int)<16):=by decide +kernel
 have h:=this ⟨b.toNat,b.toNat_lt⟩;simpa using h
theorem xk (base:Int): ∀(l:Bs) (n:Int),(jM base l n).isSome=l.all fun b=>decide (0<= bD b.toNat/\ bD b.toNat<base)
 | [],n=>rfl
 |b::r,n=>by
  rw[jM,List.all_cons];by_cases h:bD b.toNat<0\/ base<= bD b.toNat
  ·rw[if_pos h,show decide (0<= bD b.toNat/\ bD b.toNat<base)=false by simp;omega];rfl
  ·rw[if_neg h,show decide (0<= bD b.toNat/\ bD b.toNat<base)=true by simp;omega,xk base r];rfl
theorem Fz (l:Bs):(dA 10 15 l).isSome=(decide (1<= l.length)&&decide (l.length<= 15)&&l.all (Ih.contains ·)):=by
 unfold dA;by_cases h:l.length<1\/ 15<l.length
 ·rw[if_pos h];symm;simp;omega
 ·rw[if_neg h,xk,show decide (1<= l.length)=true by simp;omega,show decide (l.length<= 15)=true by simp;omega]
  simp only[Bool.true_and];congr 1;funext b;rw[NM]
theorem NP (l:Bs):(dA 16 12 l).isSome=(decide (1<= l.length)&&decide (l.length<= 12)&&l.all (hexS.contains ·)):=by
 unfold dA;by_cases h:l.length<1\/ 12<l.length
 ·rw[if_pos h];symm;simp;omega
 ·rw[if_neg h,xk,show decide (1<= l.length)=true by simp;omega,show decide (l.length<= 12)=true by simp;omega]
  simp only[Bool.true_and];congr 1;funext b;rw[XJ]
theorem iE {s:ByteArray} (h:s.size=0):s=⟨#[]⟩:=fQ (List.eq_nil_of_length_eq_zero (by rw[au];exact h))
theorem bI {s:ByteArray} (h:0<s.size):s.toList.isEmpty=false:=by
 rw[ByteArray.toList_eq,List.isEmpty_eq_false_iff];intro h';rw[<- au,h']at h;simp at h
theorem CZ (s:ByteArray) (w:World) (hs:s.size<= maxLen):
 Calls Tryz.prog 165 #[.string s,.string ⟨#[48,49,50,51,52,53,54,55,56,57]⟩,.int .i64 15] w fun e w'=>e= .returned (.bool (dA 10 15 s.data.toList).isSome)/\ Below w.heap.size w w':=by
 have hR:=Fz s.data.toList;have HR:=Lib.hid hR;clear hR;unfold maxLen at hs;rcases Nat.eq_zero_or_pos s.size with h0|h0
 ·obtain rfl:=iE h0
  go_enter Tryz.func165,Tryz.ntmps165
  go_wp2
  go_ret
  exact⟨fO (by rw[HR.out];rfl),Below.refl _ _⟩
 ·have hne:=bI h0
  by_cases hm:s.size<= 15
  ·have HC:=Lib.hid (Any.strings_Trim_laid Tryz.lays160 (by kernel_rfl) s ⟨#[48,49,50,51,52,53,54,55,56,57]⟩ w hs (by decide) (ascii_of_all (by decide)))
   have hnil:=DJ s.data.toList [48,49,50,51,52,53,54,55,56,57];go_enter Tryz.func165,Tryz.ntmps165
   go_wp2_with (go_at_call 208;refine HC.out.mono ?_;rintro e w' ⟨rfl,hb⟩)
   go_ret
   refine⟨fO ?_,hb⟩;rw[HR.out,au,show decide (1<= s.size)=true by simp;omega,show decide (s.size<= 15)=true by simp;omega,Bool.eq_iff_iff]
   simp only[Bool.true_and];rw[show Ih= [48,49,50,51,52,53,54,55,56,57]from rfl,<- hnil]
   simp
  ·go_enter Tryz.func165,Tryz.ntmps165
   go_wp2
   go_ret
   exact⟨fO (by rw[HR.out,au,show decide (s.size<= 15)=false by simp;omega];simp),Below.refl _ _⟩
theorem Dc (s:ByteArray) (w:World) (hs:s.size<= maxLen):
 Calls Tryz.prog 165 #[.string s,.string ⟨#[48,49,50,51,52,53,54,55,56,57,97,98,99,100,101,102,65,66,67,68,69,70]⟩,.int .i64 12] w fun e w'=>e= .returned (.bool (dA 16 12 s.data.toList).isSome)/\ Below w.heap.size w w':=by
 have hR:=NP s.data.toList;have HR:=Lib.hid hR;clear hR;unfold maxLen at hs;rcases Nat.eq_zero_or_pos s.size with h0|h0
 ·obtain rfl:=iE h0
  go_enter Tryz.func165,Tryz.ntmps165
  go_wp2
  go_ret
  exact⟨fO (by rw[HR.out];rfl),Below.refl _ _⟩
 ·have hne:=bI h0
  by_cases hm:s.size<= 12
  ·have HC:=Lib.hid (Any.strings_Trim_laid Tryz.lays160 (by kernel_rfl) s ⟨#[48,49,50,51,52,53,54,55,56,57,97,98,99,100,101,102,65,66,67,68,69,70]⟩ w hs (by decide) (ascii_of_all (by decide)))
   have hnil:=DJ s.data.toList [48,49,50,51,52,53,54,55,56,57,97,98,99,100,101,102,65,66,67,68,69,70];go_enter Tryz.func165,Tryz.ntmps165
   go_wp2_with (go_at_call 208;refine HC.out.mono ?_;rintro e w' ⟨rfl,hb⟩)
   go_ret
   refine⟨fO ?_,hb⟩;rw[HR.out,au,show decide (1<= s.size)=true by simp;omega,show decide (s.size<= 12)=true by simp;omega,Bool.eq_iff_iff]
   simp only[Bool.true_and];rw[show hexS= [48,49,50,51,52,53,54,55,56,57,97,98,99,100,101,102,65,66,67,68,69,70]from rfl,<- hnil]
   simp
  ·go_enter Tryz.func165,Tryz.ntmps165
   go_wp2
   go_ret
   exact⟨fO (by rw[HR.out,au,show decide (s.size<= 12)=false by simp;omega];simp),Below.refl _ _⟩
theorem digV (b:UInt8) (h:Ih.contains b=true):Lib.digitVal b=some (b.toNat-48)/\ bD b.toNat=((b.toNat-48:Nat):Int)/\ b≠45/\ b≠43:=by
 have: ∀x:Fin 256,Ih.contains (UInt8.ofNat x.val)=true-> Lib.digitVal (UInt8.ofNat x.val)=some ((UInt8.ofNat x.val).toNat-48)/\ bD ((UInt8.ofNat x.val).toNat:Int)=(((UInt8.ofNat x.val).toNat-48:Nat):Int)/\ (UInt8.ofNat x.val)≠45/\ (UInt8.ofNat x.val)≠43:=by decide +kernel
 have h':=this ⟨b.toNat,b.toNat_lt⟩;simp only[UInt8.ofNat_toNat]at h';exact h' h
theorem vI: ∀(l:Bs) (n:Nat),l.all (Ih.contains ·)=true-> ∃m:Nat,Lib.decFrom n l=some m/\ jM 10 l n=some (m:Int)
 | [],n,_=>⟨n,rfl,rfl⟩
 |b::r,n,h=>by
  rw[List.all_cons,Bool.and_eq_true]at h;obtain⟨h1,h2,_,_⟩:=digV b h.1;obtain⟨m,e1,e2⟩:=vI r (n*10+(b.toNat-48)) h.2;refine⟨m,by rw[Lib.decFrom,h1];exact e1,?_⟩
  have hd:=NM b;rw[h.1]at hd;have hd':0<= bD b.toNat/\ bD b.toNat<10:=of_decide_eq_true hd.symm;rw[jM,if_neg (by omega),h2]
  rw[Int.natCast_add,Int.natCast_mul]at e2;exact e2
theorem OX (l:Bs) (h:(dA 10 15 l).isSome=true): ∃m:Nat,Lib.atoi l=some (m:Int)/\ dA 10 15 l=some (m:Int):=by
 have h':=h;rw[Fz]at h;simp only[Bool.and_eq_true,decide_eq_true_eq]at h;obtain⟨⟨h1,h2⟩,h3⟩:=h;obtain⟨m,e1,e2⟩:=vI l 0 h3;refine⟨m,?_,?_⟩
 ·cases l with
  |nil=>simp at h1
  |cons b r=>
   rw[List.all_cons,Bool.and_eq_true]at h3;obtain⟨_,_,n1,n2⟩:=digV b h3.1;unfold Lib.atoi;simp only[];rw[if_neg (by simpa using n1),if_neg (by simpa using n2)]
   unfold Lib.decNat;simp only[List.isEmpty_cons,Bool.false_eq_true,if_false,e1,Option.map_some]
 ·unfold dA;rw[if_neg (by omega)];exact e2
theorem FB (s:ByteArray) (w:World) (hs:s.size<= maxLen):
 Calls Tryz.prog 105 #[.string s] w fun e w'=>e= .returned (CY (dA 10 15 s.data.toList))/\ Below w.heap.size w w':=by
 have HD:=Lib.hid (CZ s w hs);by_cases h:(dA 10 15 s.data.toList).isSome=true
 ·obtain⟨m,h1,h2⟩:=OX _ h
  have hsz:s.size<= 18:=by
   rw[Fz,au]at h;simp only[Bool.and_eq_true,decide_eq_true_eq]at h;omega
  have HA:=fun W:World=>Tryz.strconv_Atoi s m hsz h1 W
  have HA':=Lib.hid HA;have H2:=Lib.hid h2;clear HA h1 h2 hsz;go_enter Tryz.func105,Tryz.ntmps105
  go_wp2_with fail
  refine HD.out.mono ?_;rintro e w1 ⟨rfl,hb1⟩;go_wp2_with fail
  refine(HA'.out _).mono ?_;rintro e w2 ⟨rfl,t,rfl⟩;go_wp2
  go_ret2
  refine⟨by rw[H2.out];rfl,hb1.trans ?_⟩
  exact⟨rfl,rfl,rfl,by rw[Lib.bytesWorld_size];omega,fun k hk=>Lib.bytesWorld_at_old w1 _ t k (by have:=hb1.size;omega)⟩
 ·have h0:(dA 10 15 s.data.toList).isSome=false:=by simpa using h
  have hn:dA 10 15 s.data.toList=none:=by simpa using h0
  have HN:=Lib.hid hn;clear h hn;go_enter Tryz.func105,Tryz.ntmps105
  go_wp2_with fail
  refine HD.out.mono ?_;rintro e w1 ⟨rfl,hb1⟩;go_wp2
  go_ret2
  exact⟨by rw[HN.out];rfl,hb1⟩
theorem Ti (u:Nat):eG 10 u=Lib.decDigits u:=by
 induction u using Nat.strongRecOn with
 |ind u ih=>
  rw[jv 10 u (by omega),Lib.decDigits]
  have hd: ∀d:Fin 10,dch d.val=UInt8.ofNat (48+d.val):=by decide
  by_cases h:u<10
  ·rw[if_pos (by omega),dif_pos h,Nat.mod_eq_of_lt h,hd ⟨u,h⟩]
  ·rw[if_neg (by omega),dif_neg h,ih (u / 10) (by omega),hd ⟨u % 10,by omega⟩]
def Tab10 (w:World):Prop:=Lib.TabIs Tryz.prog w "internal/strconv.uint64pow10" .u64 Lib.pow10Tab
theorem tab_below {w w':World} {B:Nat} (h:Tab10 w) (hb:Below B w w') (hB:w.heap.size<= B):Tab10 w':=Joins.tab_stays (g:=5) (by kernel_rfl) h hb hB
theorem Ii (w:World) (k:Nat) (os:Array Obj):Below w.heap.size w (Sort.grow (w.drewN k) os):=
 ⟨rfl,rfl,rfl,by simp[Sort.grow],fun i hi=>by simp only[Sort.grow];exact Array.getElem?_append_left hi⟩
theorem FC (n:Int) (w:World) (h0: -9223372036854775808<= n) (h1:n<= 9223372036854775807) (ht:Tab10 w):
 Calls Tryz.prog 193 #[.int .i64 n] w fun e w'=>e= .returned (sv (eG 10 n.toNat))/\ Below w.heap.size w w':=by
 have key: ∀m:Int,0<= m-> m<= 9223372036854775807-> Calls Tryz.prog 245 #[.int .i64 m] w fun e w'=>e= .returned (sv (eG 10 m.toNat))/\ Below w.heap.size w w':=fun m m0 m1=>
  (Tryz.strconv_Itoa m (by omega) m1 w ht).mono fun e w' ⟨he,k,os,hw⟩=>by
    subst hw;refine⟨?_,Ii _ _ _⟩;rw[he,Ti];unfold Lib.itoa;rw[if_neg (by omega)]
 have Key:=Lib.hid key;clear key ht;go_enter Tryz.func193,Tryz.ntmps193
 go_wp2_with fail
 refine(Key.out (max 0 n) (by omega) (by omega)).mono ?_
 rintro e w' ⟨rfl,hb⟩;go_wp2
 go_ret
 exact⟨by rw[show(max 0 n).toNat=n.toNat by omega];rfl,hb⟩
def NQ (b:UInt8):Bool:=wY b.toNat||b==45||b==46
def Tj (l:Bs):Bool:=decide (l.length<= 5)&& (dA 10 15 l).any fun n=>decide (n<= 65535)
def tN (l:Bs):Bool:=
 let h:=l.takeWhile (· != 58)
 let r:=l.dropWhile (· != 58)
 (r.isEmpty||Tj r.tail)&&decide (1<= h.length)&&decide (h.length<= 100)&&h.all NQ
def FD (a b:UInt8):Option UInt8:=
 if bD a.toNat<0\/ bD b.toNat<0\/ bD a.toNat*16+bD b.toNat=0 then none else some (UInt8.ofNat (bD a.toNat*16+bD b.toNat).toNat)
def decodeL:Bs-> Option Bs
 | []=>some []
 |c::r=>if c=37 then(match r with|a::b::r'=>(FD a b).bind fun x=>(decodeL r').map (x:: ·)|_=>none)else(decodeL r).map (c:: ·)
theorem tX (c:UInt8) (r:Bs) (h:c≠37):decodeL (c::r)=(decodeL r).map (c:: ·):=by
 cases r with
 |nil=>simp[decodeL,h]
 |cons a r=>cases r<;>simp[decodeL,h]
theorem yD (a b:UInt8) (r:Bs):decodeL (37::a::b::r)=(FD a b).bind fun x=>(decodeL r).map (x:: ·):=by simp[decodeL]
theorem qj:decodeL [37]=none:=by simp[decodeL]
theorem qo (a:UInt8):decodeL [37,a]=none:=by simp[decodeL]
theorem qw: ∀(k:Nat) (l:Bs),l.length<= k-> ∀r,decodeL l=some r-> r.length<= l.length
 |_,[],_,r,h=>by simp[decodeL]at h;simp[<- h]
 |0,c::l,hk,r,h=>by simp at hk
 |k+1,c::l,hk,r,h=>by
  by_cases hc:c=37
  ·subst hc
   match l,h with
   | [],h=>simp[qj]at h
   | [a],h=>simp[qo]at h
   |a::b::r',h=>
    rw[yD]at h;cases hp:FD a b with
    |none=>simp[hp]at h
    |some x=>
     simp only[hp,Option.bind_some,Option.map_eq_some_iff]at h;obtain⟨q,hq,rfl⟩:=h;have:=qw k r' (by simp at hk;omega) q hq
     simp;omega
  ·rw[tX c l hc]at h
   simp only[Option.map_eq_some_iff]at h;obtain⟨q,hq,rfl⟩:=h;have:=qw k l (by simp at hk;omega) q hq
   simp;omega
def aS (c:UInt8):Bs-> List Bs
 | []=> [[]]
 |b::l=>if b=c then []::aS c l else(match aS c l with| []=> [[b]]|p::ps=>(b::p)::ps)
theorem qZ (c:UInt8) (l:Bs):aS c l≠[]:=by
 cases l with
 |nil=>simp[aS]
 |cons b l=>
  rw[aS];split
  ·simp
  ·split<;>simp
def pF (st:Option (List Bs)) (p:Bs):Option (List Bs):=
 st.bind fun ps=>if p= []\/ p= [46]then some ps else if p= [46,46]then(if ps= []then none else some ps.dropLast)else some (ps++ [p])
def dD (ps:List Bs):Bs:=ps.flatMap (47:: ·)
def OY (p:Bs):Bool:=p== []||p== [46]||p== [46,46]
def endP (ps:List Bs) (last:Bs):Bs:=dD ps++if OY last||ps.isEmpty then [47]else []
def xq (parts:List Bs):Option Bs:=(parts.foldl pF (some [])).map fun st=>endP st (parts.getLastD [])
def oz (l:Bs):Option Bs:=if l.head? = some 47 then xq (aS 47 l)else none
theorem KJ (l:List Bs):l.foldl pF none=none:=by
 induction l with
 |nil=>rfl
 |cons a l ih=>exact ih
theorem or_lo (b:UInt8) (h:97<= b.toNat/\ b.toNat<= 122):(b.toNat ||| 32)=b.toNat:=by
 have: ∀x:Fin 256,97<= x.val/\ x.val<= 122->(x.val ||| 32)=x.val:=by decide +kernel
 exact this ⟨b.toNat,b.toNat_lt⟩ h
theorem or_up (b:UInt8) (h:65<= b.toNat/\ b.toNat<= 90):(b.toNat ||| 32)=b.toNat+32:=by
 have: ∀x:Fin 256,65<= x.val/\ x.val<= 90->(x.val ||| 32)=x.val+32:=by decide +kernel
 exact this ⟨b.toNat,b.toNat_lt⟩ h
theorem XK (b:UInt8):bits BinOp.or IntKind.u8 (b.toNat:Int) 32=((b.toNat ||| 32:Nat):Int):=by
 have: ∀x:Fin 256,bits BinOp.or IntKind.u8 (x.val:Int) 32=((x.val ||| 32:Nat):Int):=by decide +kernel
 exact this ⟨b.toNat,b.toNat_lt⟩
theorem DK (b:UInt8) (w:World):
 Calls Tryz.prog 320 #[.int .u8 b.toNat] w fun e w'=>e= .returned (.int .u8 (((b.toNat ||| 32:Nat):Int)))/\ w=w':=by
 go_enter Tryz.func320,Tryz.ntmps320
 go_wp2
 go_ret
 exact⟨by rw[<- XK];rfl,rfl⟩
theorem DL (b:UInt8) (h:hexS.contains b=true):(48<= b.toNat/\ b.toNat<= 57/\ bD b.toNat=(b.toNat:Int)-48)\/ (97<= b.toNat/\ b.toNat<= 102/\ bD b.toNat=(b.toNat:Int)-87)\/ (65<= b.toNat/\ b.toNat<= 70/\ bD b.toNat=(b.toNat:Int)-55):=by
 have: ∀x:Fin 256,hexS.contains (UInt8.ofNat x.val)=true->(48<=(UInt8.ofNat x.val).toNat/\ (UInt8.ofNat x.val).toNat<= 57/\ bD (UInt8.ofNat x.val).toNat=((UInt8.ofNat x.val).toNat:Int)-48)\/ (97<=(UInt8.ofNat x.val).toNat/\ (UInt8.ofNat x.val).toNat<= 102/\ bD (UInt8.ofNat x.val).toNat=((UInt8.ofNat x.val).toNat:Int)-87)\/ (65<=(UInt8.ofNat x.val).toNat/\ (UInt8.ofNat x.val).toNat<= 70/\ bD (UInt8.ofNat x.val).toNat=((UInt8.ofNat x.val).toNat:Int)-55):=by decide +kernel
 have h':=this ⟨b.toNat,b.toNat_lt⟩;have e:UInt8.ofNat b.toNat=b:=by simp
 rw[show((⟨b.toNat,b.toNat_lt⟩:Fin 256).val)=b.toNat from rfl,e]at h'
 exact h' h
theorem KL (s:ByteArray) (w:World) (h0:0<s.size) (h1:s.size<= 12) (hx: ∀b∈s.data.toList,hexS.contains b=true):
 Calls Tryz.prog 296 #[.string s,.int .i64 16,.int .i64 64] w fun e w'=>(∃n:Int,0<= n/\ n<9223372036854775807/\ jM 16 s.data.toList 0=some n/\ e= .returned (.tuple #[.int .u64 n,.nilIface]))/\ Below w.heap.size w w':=by
 have hne:=bI h0;have hw:IntKind.u64.wrap (IntKind.u64.wrap 18446744073709551616-1)=18446744073709551615:=by decide
 go_enter Tryz.func296,Tryz.ntmps296
 go_wp2_with (refine iM _ rfl (.tmp 98) 9 33 rfl 5 w.heap.size s rfl Tryz.underlying9 Tryz.underlying33 Tryz.underlying5 (by unfold maxLen;omega) (Nat.le_refl _) ?_
              intro cap w1 hcap ho1 hg1 hz1)
 have L1:=jJ hg1;have hc1: ∀k,k<s.size-> w1.cell? ⟨w.heap.size,k,none⟩=(s.data.toList.map bv)[k]? := fun k hk=>by
  have Ig:=ho1;obtain⟨_,h⟩:=Ig;rcases h with⟨hv,_⟩| ⟨g,cap',cur,fr,hv,hg,hblk,hfr,h1',h2',h3',h4'⟩
  ·cases hv
  ·simp only[Value.slice.injEq,Option.some.injEq,Addr.mk.injEq,true_and,and_true]at hv
   obtain⟨rfl,-⟩:=hv;rw[cell_of_row w1 _ k cur _ _ hblk,<- h4',List.getElem?_take_of_lt (by omega)]
   simp
 clear ho1 hg1
 go_loop [12,13,101] (fun u v i=> ∃(k:Nat) (n:Int),k<= s.size/\ u= .bool false/\ v= .int .u64 n/\ i= .int .i64 k/\ 0<= n/\ Hid (n< (16:Int) ^ k)/\ Hid (jM 16 s.data.toList 0=jM 16 (s.data.toList.drop k) n)) (fun _ _ i=>s.size- (intOf i).toNat)
 case atStart=>exact⟨0,0,Nat.zero_le _,rfl,rfl,rfl,Int.le_refl _,Lib.hid (by decide),rfl⟩
 case round=>
  obtain⟨k,n,hk,rfl,rfl,rfl,hn0,HB,H⟩:=hrel;by_cases hlt:k<s.size
  ·obtain⟨b,hb,hbt⟩:=dP s k hlt
   have hbm:b∈s.data.toList:=List.mem_of_mem_drop (i:=k) (by rw[hb];simp)
   have hcell:=hc1 k hlt;have hgb:s.data.toList[k]? = some b:=by rw[<- List.head?_drop,hb];rfl
   rw[List.getElem?_map,hgb,Option.map_some]at hcell;have Hb:=Lib.hid hb;clear hb hgb;have hn11:=SQ n k HB.out (by omega)
   clear hbt;have hcl:=DL b (hx b hbm);clear hc1 hx hbm;rcases hcl with⟨q0,q1,hd⟩| ⟨q0,q1,hd⟩| ⟨q0,q1,hd⟩
   ·have Hd:=Lib.hid hd;clear hd
    go_wp2_with fail
    go_round
    case rel=>
     refine⟨k+1,n*16+((b.toNat:Int)-48),by omega,rfl,by go_num,by go_num,by omega,?_,?_⟩
     ·have:=zJ n 16 k ((b.toNat:Int)-48) HB.out (by omega) (by omega)
      exact Lib.hid (by simpa using this)
     ·rw[H.out,Hb.out,jM,Hd.out,if_neg (by omega)];rfl
    case measure=>simp[intOf];omega
   ·have Hd:=Lib.hid hd;clear hd
    have hor:=or_lo b (by omega)
    go_wp2_with (go_at_call 320;refine(DK b _).mono ?_;rintro e w3 ⟨rfl,rfl⟩;rw[hor])
    go_round
    case rel=>
     refine⟨k+1,n*16+((b.toNat:Int)-87),by omega,rfl,by go_num,by go_num,by omega,?_,?_⟩
     ·have:=zJ n 16 k ((b.toNat:Int)-87) HB.out (by omega) (by omega)
      exact Lib.hid (by simpa using this)
     ·rw[H.out,Hb.out,jM,Hd.out,if_neg (by omega)];rfl
    case measure=>simp[intOf];omega
   ·have Hd:=Lib.hid hd;clear hd
    have hor:=or_up b (by omega)
    go_wp2_with (go_at_call 320;refine(DK b _).mono ?_;rintro e w3 ⟨rfl,rfl⟩;rw[hor])
    go_round
    case rel=>
     refine⟨k+1,n*16+((b.toNat:Int)-55),by omega,rfl,by go_num,by go_num,by omega,?_,?_⟩
     ·have:=zJ n 16 k ((b.toNat:Int)-55) HB.out (by omega) (by omega)
      exact Lib.hid (by simpa using this)
     ·rw[H.out,Hb.out,jM,Hd.out,if_neg (by omega)];rfl
    case measure=>simp[intOf];omega
  ·have hkn:k=s.size:=by omega
   subst hkn;have hend:jM 16 s.data.toList 0=some n:=by rw[H.out,drop_end s s.size (Nat.le_refl _)];rfl
   have ZE:=SN n 16 s.size 12 (by simpa using HB.out) h1 (by omega)
   have Hend:=Lib.hid hend;have H12:=Lib.hid ZE;clear hend ZE hc1 hx;go_wp2
   go_ret2
   exact⟨⟨n,hn0,by have:=H12.out;simp at this;omega,Hend.out,rfl⟩,L1⟩
theorem OZ (s:ByteArray) (w:World) (h0:0<s.size) (h1:s.size<= 12) (hx: ∀b∈s.data.toList,hexS.contains b=true):
 Calls Tryz.prog 261 #[.string s,.int .i64 16,.int .i64 64] w fun e w'=>(∃n:Int,0<= n/\ n<9223372036854775807/\ jM 16 s.data.toList 0=some n/\ e= .returned (.tuple #[.int .i64 n,.nilIface]))/\ Below w.heap.size w w':=by
 have hne:=bI h0;have hU:=Lib.hid (KL s w h0 h1 hx);obtain⟨b,hb,hbt⟩:=dP s 0 h0;have hbm:b∈s.data.toList:=List.mem_of_mem_drop (i:=0) (by rw[hb];simp)
 have hcl:=DL b (hx b hbm);have h43:(b.toNat:Int)≠43/\ (b.toNat:Int)≠45:=by omega
 obtain⟨h43,h45⟩:=h43;have hbs:=PlainAid.get_bt s;clear hb hx hbm hcl;go_enter Tryz.func261,Tryz.ntmps261
 go_wp2_with fail
 refine hU.out.mono ?_;rintro e w1 ⟨⟨n,n0,n1,HN,rfl⟩,L1⟩;have HN:=Lib.hid HN;go_wp2
 all_goals go_ret2
 all_goals exact⟨⟨n,n0,n1,HN.out,rfl⟩,L1⟩
theorem Ij (s:ByteArray) (w:World) (h0:0<s.size) (h1:s.size<= 12) (hx: ∀b∈s.data.toList,hexS.contains b=true):
 Calls Tryz.prog 207 #[.string s,.int .i64 16,.int .i64 64] w fun e w'=>(∃n:Int,0<= n/\ n<9223372036854775807/\ jM 16 s.data.toList 0=some n/\ e= .returned (.tuple #[.int .i64 n,.nilIface]))/\ Below w.heap.size w w':=by
 have hU:=Lib.hid (OZ s w h0 h1 hx);clear hx;go_enter Tryz.func207,Tryz.ntmps207
 go_wp2_with fail
 refine hU.out.mono ?_;rintro e w1 ⟨⟨n,n0,n1,HN,rfl⟩,L1⟩;have HN:=Lib.hid HN;go_wp2
 all_goals go_ret2
 all_goals exact⟨⟨n,n0,n1,HN.out,rfl⟩,L1⟩
theorem ru (s:ByteArray) (w:World) (hs:s.size<= maxLen):
 Calls Tryz.prog 164 #[.string s] w fun e w'=>e= .returned (CY (dA 16 12 s.data.toList))/\ Below w.heap.size w w':=by
 have HD:=Lib.hid (Dc s w hs);by_cases h:(dA 16 12 s.data.toList).isSome=true
 ·have h':=h
  rw[NP,au]at h';simp only[Bool.and_eq_true,decide_eq_true_eq,List.all_eq_true]at h';obtain⟨⟨h1,h2⟩,h3⟩:=h';have HP:=Lib.hid (fun W:World=>Ij s W (by omega) h2 h3)
  have hR:dA 16 12 s.data.toList=jM 16 s.data.toList 0:=by unfold dA;rw[au,if_neg (by omega)]
  have HR:=Lib.hid hR;have H1:=Lib.hid h;clear h h3 hR;go_enter Tryz.func164,Tryz.ntmps164
  go_wp2_with fail
  refine HD.out.mono ?_;rintro e w1 ⟨rfl,hb1⟩;rw[H1.out];go_wp2_with fail
  refine(HP.out _).mono ?_;rintro e w2 ⟨⟨n,n0,n1,HN,rfl⟩,L2⟩;have HN:=Lib.hid HN;go_wp2
  all_goals go_ret2
  all_goals exact⟨by rw[HR.out,HN.out];rfl,stepW hb1 L2⟩
 ·have h0:(dA 16 12 s.data.toList).isSome=false:=by simpa using h
  have hn:dA 16 12 s.data.toList=none:=by simpa using h0
  have HN:=Lib.hid hn;have H0:=Lib.hid h0;clear h hn h0;go_enter Tryz.func164,Tryz.ntmps164
  go_wp2_with fail
  refine HD.out.mono ?_;rintro e w1 ⟨rfl,hb1⟩;rw[H0.out];go_wp2
  go_ret2
  exact⟨by rw[HN.out];rfl,hb1⟩
section
open Go.ChangeShapes Go.WideShapes Go.ChangeAt Go.RowKit
section
variable {H:Type} {enc:TypeId×Value-> H} {P:Program} {W W':World} {sp:Nat-> Bool}
theorem FI (hb:Below W.heap.size W W') {p:MemPlace} (hp:p.block<W.heap.size):W.sameAt W' p:=by
 cases p with
 |cell b off=>exact hb.cell (p:=⟨b,off,none⟩) hp
 |map b=>exact hb.block b hp
theorem zL (K:Kids P (· <P.types.size)) (hz: ∀t e,t<P.types.size-> P.underlying t=some (.slice e)-> 0<P.cellsOf e) (hb:Below W.heap.size W W'):
 ∀ {ts:List TypeId} {vs:List Value} {ds:List (DataW H)} {ps:List MemPlace},(∀t∈ts,t<P.types.size)-> DataW.TrodAll enc P W 0 (fun _=>true) true ts vs ds ps->(∀p∈ps,p.block<W.heap.size)->(∀p∈ps,sp p.block=true)-> DataW.TrodAll enc P W' 0 sp true ts vs ds ps
 | [],[],[],_,_,h,_,_=>h
 |t::_,v::_,d::_,_,hT,⟨p,q,⟨n,h1⟩,h2,e⟩,hl,hs=>by
  subst e
  exact⟨p,q,⟨n,DataW.trod_stays K (fun ht hu=>hz _ _ ht hu) (fun h=>by cases h) (hT _ (List.mem_cons.2 (Or.inl rfl))) h1 (fun x hx=>FI hb (hl x (List.mem_append_left _ hx))) (fun x hx=>hs x (List.mem_append_left _ hx))⟩,
   zL K hz hb (fun t ht=>hT t (List.mem_cons.2 (Or.inr ht))) h2 (fun x hx=>hl x (List.mem_append_right _ hx)) (fun x hx=>hs x (List.mem_append_right _ hx)),rfl⟩
theorem O4 {t:TypeId} (ht:P.underlying t=some .bool) (b:Nat) (sp:Nat-> Bool) (hd:Bool):DataW.TrodAll enc P W' b sp hd [t] [.bool true] [.lit (.bool true)] []:=trodAll_cons_mk (shut_bool ht _) trodAll_mk0
theorem post_true {f:Func} {s:ChangeSpec} {apart fresh handsOn again:Bool} {args:Array Value} {ds gs:List (DataW H)} {before:List MemPlace} {t:TypeId}
 (K:Kids P (· <P.types.size)) (hz: ∀t e,t<P.types.size-> P.underlying t=some (.slice e)-> 0<P.cellsOf e) (hT: ∀t∈f.params.toList,t<P.types.size)
 (hW:DataW.Whole enc P f.params.toList s.vars apart W args.toList ds gs before) (hv:s.vars= [])
 (hres:(s.fn H (ds++ [])).results= [.lit (.bool true)]) (hargs:(s.fn H (ds++ [])).args=ds) (hvars:(s.fn H (ds++ [])).vars= []) (hb:Below W.heap.size W W') (hr:f.resultTypes= #[t]) (ht:P.underlying t=some .bool):
 s.post enc P f apart fresh handsOn again W args (.bool true) W':=by
 have hW':=hW;obtain⟨p,q,hA,hV,he,hfz,hn⟩:=hW';rw[hv]at hV;obtain⟨rfl,rfl⟩:=trodVars_none hV;rw[List.append_nil]at he;subst he;have hl: ∀x∈before,x.block<W.heap.size:=fun x hx=>hW.lt x hx
 have hA': ∀sp:Nat-> Bool,(∀x∈before,sp x.block=true)-> DataW.TrodAll enc P W' 0 sp true f.params.toList args.toList ds before:=fun sp hs=>zL K hz hb hT hA hl hs
 have hR: ∀(b:Nat) (sp:Nat-> Bool) (hd:Bool),DataW.TrodAll enc P W' b sp hd f.resultTypes.toList ((Value.bool true).resultList f.resultTypes.size) [.lit (.bool true)] []:=fun b sp hd=>by rw[hr];exact O4 ht b sp hd
 have hV': ∀sp:Nat-> Bool,DataW.TrodVars enc P W' sp s.vars [] []:=fun sp=>by rw[hv];rfl
 refine⟨ds,[],before,[],before,[],hW,by rw[hres];exact hR _ _ _,by rw[hargs];exact hA' _ (fun x hx=>by simpa using hl x hx),by rw[hvars];exact hV' _,World.keptBut_mono (fun x hx=>⟨hx,Or.inr (Or.inl hx)⟩) (hb.frame (· ∈before)),fun _=>⟨?_,?_⟩⟩
 ·exact fun j t' r h1 h2=>ok_one (by rw[hr]) rfl (okWide_bool_mk ht _) j t' r h1 h2
 ·refine⟨[.lit (.bool true)]++ds,[],[]++before,⟨[]++before,[],trodAll_append (hA' _ (fun _ _=>rfl)) (hR _ _ _),hV' _,by simp,?_,?_⟩,fun x hx _=>by simpa using hx⟩
  ·intro b off hp
   have hin:MemPlace.cell b off∈before:=by simpa using hp
   rw[hb.frozen (hl _ hin)];exact hfz b off hin
  ·intro ha
   simpa using hn ha
end
theorem own0:ownKnob Tryz.prog.godebug=none:=by kernel_rfl
theorem kids0:Kids Tryz.prog (· <Tryz.prog.types.size):=kids_rows (by kernel_rfl) (by kernel_rfl)
theorem full0: ∀t e,t<Tryz.prog.types.size-> Tryz.prog.underlying t=some (.slice e)-> 0<Tryz.prog.cellsOf e:=slices_full_of Tryz.prog (by kernel_rfl)
end
end Go.Proofs.YtdmondfpepbniaaGreatDoor
