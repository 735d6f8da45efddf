/- Part 4 of the proof: App. -/
import Derived.Deep.QuietTactic
import Derived.BigQuiet
import Derived.Lib.Split
import Derived.Test.YtdmondfpepbniaaGreatDoorQ01
namespace Go.Proofs.YtdmondfpepbniaaGreatDoor
open Go.RowKit
set_option maxRecDepth 100000
set_option maxHeartbeats 4000000
structure Ext (w w':World) (v v':Value):Prop where
 fr:Fr (fun k=>v.ownBlock=some k) w w'
 own: ∀k,v'.ownBlock=some k-> v.ownBlock=some k\/ w.heap.size<= k
namespace Ext
variable {w w' w'':World} {v v' v'':Value}
theorem below {base B:Nat} {e:TypeId} {size n:Nat} {xs:List Value} (h:Ext w w' v v') (ho:Own w base e size v n xs) (hB:B<= base) (hs:B<= w.heap.size):Below B w w':=
 h.fr.toBelow hs fun k hk=>Nat.le_trans hB (ho.lt k hk).1
theorem keep {base e size n:Nat} {u:Value} {xs:List Value} (h:Ext w w' v v') (ho:Own w base e size u n xs) (hne: ∀k,v.ownBlock=some k-> u.ownBlock≠some k):Own w' base e size u n xs:=
 ho.fr h.fr fun k hk hs=>hne k hs hk
end Ext
theorem oH {w0 w w':World} {v v':Value} (hw:Below w0.heap.size w0 w) (hg:w.grownBy w' v.ownBlock) (ha:v'.ownBlock=v.ownBlock\/ v'.ownBlock=some w.heap.size):Ext w0 w' v v':=by
 refine⟨?_,fun k hk=> ?_⟩
 ·refine Fr.trans (Fr.mono (T:=fun k=>v.ownBlock=some k) (Fr.dB hw) (fun i hi=>.inr hi)) (Fr.XG hg) (fun i hi=>.inl hi.symm)
 ·rcases ha with h|h
  ·exact .inl (h▸hk)
  ·rw[h]at hk;injection hk with hk;exact .inr (hk▸hw.size)
def OB (w:World) (base:Nat) (v:Value) (l:Bs):Prop:=Own w base 5 1 v l.length (l.map bv)
theorem OB.nil (w:World) (base:Nat):OB w base (.slice none 0 0) []:=Own.nil w base _ 1
theorem OB.ah {w w':World} {base:Nat} {v:Value} {l:Bs} (h:OB w base v l) (hb:Below w.heap.size w w'):OB w' base v l:=Own.ah h hb
theorem OB.alloc {w:World} {base:Nat} {v:Value} {l:Bs} (h:OB w base v l) (o:Obj):OB (w.alloc o) base v l:=Own.alloc h o
theorem OB.drewN {w:World} {base:Nat} {v:Value} {l:Bs} (h:OB w base v l) (n:Nat):OB (w.drewN n) base v l:=Own.drewN h n
theorem OB.form {w:World} {base:Nat} {v:Value} {l:Bs} (h:OB w base v l): ∃A c,v= .slice A l.length c/\ l.length<= c/\ c<= maxLen/\ Rd w w.heap.size 1 A l.length (l.map bv):=by
 obtain⟨A,c,h1,h2,h3,h4,_⟩:=Own.rd h;exact⟨A,c,h1,h2,h3,h4⟩
theorem OB.ext {w w':World} {base:Nat} {v u u':Value} {l:Bs} (h:OB w base v l) (hx:Ext w w' u u') (hne: ∀k,u.ownBlock=some k-> v.ownBlock≠some k):OB w' base v l:=hx.keep h hne
theorem lT:(Tryz.prog.info? 5).map (fun i=>(i.zero,i.size,i.bytes))=some (some (.int .u8 0),1,1):=by kernel_rfl
theorem uD (l:Bs): ∀u∈l.map bv,u.oneCell'=true:=by
 intro u hu;obtain⟨x,-,rfl⟩:=List.mem_map.1 hu;rfl
section
variable {ops:Array Oper} {rest:List Oper} {o:Oper} {a:Act} {Q:Exit-> Act-> World-> Prop}
theorem xC {w0 w:World} (hgd:o.guard=none) (s x:Operand) (xt:TypeId)
 (ho:o.op= .call { callee:=.builtin .append,args:=#[s,x],argTypes:=#[33,xt] })
 (hxt:Tryz.prog.underlying xt=some (.slice 5)\/ Tryz.prog.underlying xt=some .string)
 (base:Nat) (v:Value) (l:Bs) (hs:a.eval s=v) (hown:OB w0 base v l) (hw:Below w0.heap.size w0 w) (xv:Value) (hx:a.eval x=xv) (m:Bs) (hsrc:Src Tryz.prog w 1 xv m.length (m.map bv))
 (hlen:l.length+m.length<= 140737488355328) (hbase:base<= w0.heap.size)
 (h: ∀v' w',OB w' base v' (l++m)-> Ext w0 w' v v'-> wpList Tryz.prog ops Q rest (a.put o.dst v') w'):wpList Tryz.prog ops Q (o::rest) a w:=by
 obtain⟨i0,hi,hz0,hz1,hz2⟩:=info_parts lT;refine aJ w hgd s x 33 xt ho base 5 i0 _ 1 1 Tryz.underlying33 hxt hi hz0 hz1 hz2 rfl (by decide) v l.length _ hs (hown.ah hw) xv m.length _ hx hsrc (by unfold maxLen;omega) (by omega) (Nat.le_trans hbase hw.size) ?_
 intro v' w' ho' hg ha;refine h v' w' ?_ (oH hw hg ha);have e:(l.map bv++m.map bv)=(l++m).map bv:=by simp
 rw[e]at ho';unfold OB;rw[List.length_append];exact ho'
theorem iw {w0:World} (hgd:o.guard=none) (s x:Operand)
 (ho:o.op= .call { callee:=.builtin .append,args:=#[s,x],argTypes:=#[33,33] })
 (base:Nat) (v:Value) (l:Bs) (hs:a.eval s=v) (hown:OB w0 base v l) (g:Nat) (hg:g=w0.heap.size) (c:Int) (hx:a.eval x= .slice (some ⟨g,0,none⟩) 1 1) (b:UInt8) (hc:c=(b.toNat:Int))
 (hlen:l.length+1<= 140737488355328) (hbase:base<= w0.heap.size)
 (h: ∀v' w',OB w' base v' (l++ [b])-> Ext w0 w' v v'-> wpList Tryz.prog ops Q rest (a.put o.dst v') w'):wpList Tryz.prog ops Q (o::rest) a (w0.alloc (.cells #[.int .u8 c] 5)):=by
 subst hc;subst hg;exact xC hgd s x 33 ho (.inl Tryz.underlying33) base v l hs hown ((Below.refl _ _).alloc (Nat.le_refl _) _) _ hx [b] (Src.fB (Rd.new w0 _ rfl [bv b] _ 1 1 rfl) (uD [b])) hlen hbase h
theorem xG {w:World} (hgd:o.guard=none) (s x:Operand)
 (ho:o.op= .call { callee:=.builtin .append,args:=#[s,x],argTypes:=#[33,9] })
 (base:Nat) (v:Value) (l:Bs) (hs:a.eval s=v) (hown:OB w base v l) (t:ByteArray) (hx:a.eval x= .string t)
 (hlen:l.length+t.size<= 140737488355328) (hbase:base<= w.heap.size)
 (h: ∀v' w',OB w' base v' (l++t.data.toList)-> Ext w w' v v'-> wpList Tryz.prog ops Q rest (a.put o.dst v') w'):wpList Tryz.prog ops Q (o::rest) a w:=by
 have hsrc:Src Tryz.prog w 1 (.string t) t.data.toList.length (t.data.toList.map bv):=by
  have:=Src.of_string (P:=Tryz.prog) (w:=w) t.data.toList;rwa [show sv t.data.toList= .string t by rw[sv,<- ou]]at this
 exact xC hgd s x 9 ho (.inr Tryz.underlying9) base v l hs hown (Below.refl _ _) _ hx t.data.toList hsrc (by rw[au];exact hlen) hbase h
theorem Ir {w0 w:World} (hgd:o.guard=none) (s x:Operand)
 (ho:o.op= .call { callee:=.builtin .append,args:=#[s,x],argTypes:=#[33,33] })
 (base:Nat) (v:Value) (l:Bs) (hs:a.eval s=v) (hown:OB w0 base v l) (hw:Below w0.heap.size w0 w) (A:Option Addr) (n c B:Nat) (hx:a.eval x= .slice A n c) (m:Bs) (hr:Rd w B 1 A n (m.map bv))
 (hlen:l.length+m.length<= 140737488355328) (hbase:base<= w0.heap.size)
 (h: ∀v' w',OB w' base v' (l++m)-> Ext w0 w' v v'-> wpList Tryz.prog ops Q rest (a.put o.dst v') w'):wpList Tryz.prog ops Q (o::rest) a w:=by
 have hn:m.length=n:=by simpa using hr.1
 subst hn;exact xC hgd s x 33 ho (.inl Tryz.underlying33) base v l hs hown hw _ hx m (Src.fB hr (uD m)) hlen hbase h
end
theorem Iu {ops:Array Oper} {rest:List Oper} {o:Oper} {a:Act} {Q:Exit-> Act-> World-> Prop} {w:World} (hgd:o.guard=none) (x:Operand)
 (ho:o.op= .convert 33 9 x) (base:Nat) (v:Value) (l:Bs) (hx:a.eval x=v) (hown:OB w base v l) (h:wpList Tryz.prog ops Q rest (a.put o.dst (sv l)) w):
 wpList Tryz.prog ops Q (o::rest) a w:=by
 obtain⟨A,c,rfl,h1,h2,hr⟩:=hown.form;exact jY w hgd x 33 9 ho 5 Tryz.underlying33 Tryz.underlying5 Tryz.underlying9 A _ c _ l hx hr h
abbrev tv (l:Bs):Value:=.string ⟨l.toArray⟩
def OS (w:World) (base:Nat) (v:Value) (l:List Bs):Prop:=Own w base 9 1 v l.length (l.map tv)
theorem OS.nil (w:World) (base:Nat):OS w base (.slice none 0 0) []:=Own.nil w base _ 1
theorem OS.ah {w w':World} {base:Nat} {v:Value} {l:List Bs} (h:OS w base v l) (hb:Below w.heap.size w w'):OS w' base v l:=Own.ah h hb
theorem OS.alloc {w:World} {base:Nat} {v:Value} {l:List Bs} (h:OS w base v l) (o:Obj):OS (w.alloc o) base v l:=Own.alloc h o
theorem OS.drewN {w:World} {base:Nat} {v:Value} {l:List Bs} (h:OS w base v l) (n:Nat):OS (w.drewN n) base v l:=Own.drewN h n
theorem OS.form {w:World} {base:Nat} {v:Value} {l:List Bs} (h:OS w base v l): ∃A c,v= .slice A l.length c/\ l.length<= c/\ c<= maxLen/\ Rd w w.heap.size 1 A l.length (l.map tv):=by
 obtain⟨A,c,h1,h2,h3,h4,_⟩:=Own.rd h;exact⟨A,c,h1,h2,h3,h4⟩
theorem Tt:(Tryz.prog.info? 9).map (fun i=>(i.zero,i.size,i.bytes))=some (some (.string ⟨#[]⟩),1,16):=by kernel_rfl
theorem ZO (l:List Bs): ∀u∈l.map tv,u.oneCell'=true:=by
 intro u hu;obtain⟨x,-,rfl⟩:=List.mem_map.1 hu;rfl
section
variable {ops:Array Oper} {rest:List Oper} {o:Oper} {a:Act} {Q:Exit-> Act-> World-> Prop}
theorem XM {w0 w:World} (hgd:o.guard=none) (s x:Operand)
 (ho:o.op= .call { callee:=.builtin .append,args:=#[s,x],argTypes:=#[94,94] })
 (base:Nat) (v:Value) (l:List Bs) (hs:a.eval s=v) (hown:OS w0 base v l) (hw:Below w0.heap.size w0 w) (A:Option Addr) (n c B:Nat) (hx:a.eval x= .slice A n c) (m:List Bs) (hr:Rd w B 1 A n (m.map tv))
 (hlen:l.length+m.length<= 4294967296) (hbase:base<= w0.heap.size)
 (h: ∀v' w',OS w' base v' (l++m)-> Ext w0 w' v v'-> wpList Tryz.prog ops Q rest (a.put o.dst v') w'):wpList Tryz.prog ops Q (o::rest) a w:=by
 obtain⟨i0,hi,hz0,hz1,hz2⟩:=info_parts Tt;have hn:m.length=n:=by simpa using hr.1
 subst hn;refine aJ w hgd s x 94 94 ho base 9 i0 _ 1 16 Tryz.underlying94 (.inl Tryz.underlying94) hi hz0 hz1 hz2 rfl (by decide) v l.length _ hs (hown.ah hw) _ m.length _ hx (Src.fB hr (ZO m)) (by unfold maxLen;omega) (by omega) (Nat.le_trans hbase hw.size) ?_
 intro v' w' ho' hg ha;refine h v' w' ?_ (oH hw hg ha);have e:(l.map tv++m.map tv)=(l++m).map tv:=by simp
 rw[e]at ho';unfold OS;rw[List.length_append];exact ho'
theorem zQ {w0:World} (hgd:o.guard=none) (s x:Operand)
 (ho:o.op= .call { callee:=.builtin .append,args:=#[s,x],argTypes:=#[94,94] })
 (base:Nat) (v:Value) (l:List Bs) (hs:a.eval s=v) (hown:OS w0 base v l) (g:Nat) (hg:g=w0.heap.size) (t:ByteArray) (hx:a.eval x= .slice (some ⟨g,0,none⟩) 1 1)
 (hlen:l.length+1<= 4294967296) (hbase:base<= w0.heap.size)
 (h: ∀v' w',OS w' base v' (l++ [t.data.toList])-> Ext w0 w' v v'-> wpList Tryz.prog ops Q rest (a.put o.dst v') w'):wpList Tryz.prog ops Q (o::rest) a (w0.alloc (.cells #[.string t] 9)):=by
 subst hg;refine XM hgd s x ho base v l hs hown ((Below.refl _ _).alloc (Nat.le_refl _) _) _ 1 1 (w0.heap.size+1) hx [t.data.toList] ?_ hlen hbase h;have:=Rd.new w0 _ rfl [tv t.data.toList] 9 1 1 rfl;rw[show [tv t.data.toList]= [Value.string t] by rw[tv,<- ou]]at this
 rw[show [t.data.toList].map tv= [Value.string t] by rw[List.map_cons,List.map_nil,tv,<- ou]]
 exact this
end
def ML (w:World):Prop:= ∃m:Int,w.cell? ⟨0,0,none⟩=some (.int .i64 m)
theorem ML.below {w w':World} {B:Nat} (h:ML w) (hb:Below B w w') (hB:w.heap.size<= B):ML w':=by
 obtain⟨m,hm⟩:=h;have h1:0<w.heap.size:=by
  rcases Nat.lt_or_ge 0 w.heap.size with h1|h1
  ·exact h1
  ·simp[World.cell?,Array.getElem?_eq_none h1]at hm
 exact⟨m,(hb.cell (p:=⟨0,0,none⟩) (Nat.lt_of_lt_of_le h1 hB)).trans hm⟩
theorem ML.drewN {w:World} (h:ML w) (n:Nat):ML (w.drewN n):=h
def inB (o:Bs) (b:UInt8):Bool:=o.contains b
def ofB (o:Bs) (b:UInt8):Bool:=wY b.toNat||inB o b
def allOf (o l:Bs):Bool:=l.all (ofB o)
theorem XO (l:Bs) (c:UInt8):decide (Lib.indexByte l c<0)= !inB l c:=by
 have h:=KI l c;unfold inB;cases hc:l.contains c
 ·rw[hc]at h
  have: ¬0<= Lib.indexByte l c:=fun hh=>by simpa using h.1 hh
  simp;omega
 ·have:=h.2 hc
  simp;omega
theorem zS (o:Bs) (b:UInt8) (l:Bs):allOf o (b::l)=(ofB o b&&allOf o l):=by rw[allOf,allOf,List.all_cons]
theorem FM (c:Int) (w:World) (_h0:0<= c) (_h1:c<= 255):
 Calls Tryz.prog 389 #[.int .u8 c] w fun e w'=>e= .returned (.bool (wY c))/\ w=w':=by
 go_enter Tryz.func389,Tryz.ntmps389
 go_wp2
 all_goals (go_ret;exact⟨fO (by rw[Bool.eq_iff_iff];simp[wY];try omega),rfl⟩)
theorem zT (s o:ByteArray) (w:World) (hs:s.size<= maxLen):
 Calls Tryz.prog 382 #[.string s,.string o] w fun e w'=>e= .returned (.bool (allOf o.data.toList s.data.toList))/\ w=w':=by
 unfold maxLen at hs;go_enter Tryz.func382,Tryz.ntmps382
 go_wp2
 go_loop [8] (fun i=> ∃k:Nat,k<= s.size/\ i= .int .i64 k/\ Hid (allOf o.data.toList s.data.toList=allOf o.data.toList (s.data.toList.drop k))) (fun i=>s.size- (intOf i).toNat)
 case atStart=>exact⟨0,Nat.zero_le _,rfl,rfl⟩
 case round=>
  obtain⟨k,hk,rfl,H⟩:=hrel;by_cases hlt:k<s.size
  ·obtain⟨b,hb,hbt⟩:=dP s k hlt
   have Hb:=Lib.hid hb;clear hb;have hbs:=PlainAid.get_bt s;have hb8:=CX b;have hx:=XO o.data.toList b;have hub:(b.toNat:Int).toNat.toUInt8=b:=by simp
   cases hA:wY b.toNat<;>cases hO:inB o.data.toList b
   all_goals
    go_wp2_with (first
     | (go_at_call 389;refine(FM _ _ (by omega) hb8).mono ?_;rintro e w' ⟨rfl,rfl⟩)
     | (go_at_call 219;refine(Tryz.strings_IndexByte _ _ _).mono ?_;rintro e w' ⟨rfl,rfl⟩))
   ·go_ret
    exact⟨fO (by rw[H.out,Hb.out,zS,ofB,hA,hO];rfl),rfl⟩
   all_goals
    go_round
    case rel=>exact⟨k+1,by omega,by go_num,by rw[H.out,Hb.out,zS,ofB,hA,hO];rfl⟩
    case measure=>simp[intOf];omega
  ·go_wp2
   go_ret
   exact⟨fO (by rw[H.out,drop_end s k (by omega)];rfl),rfl⟩
theorem zh (c:UInt8): ∀(l:Bs),(Lib.index l [c]= -1/\ l.takeWhile (· != c)=l/\ l.dropWhile (· != c)= [])\/ (∃r,l.dropWhile (· != c)=c::r/\ Lib.index l [c]=((l.takeWhile (· != c)).length:Nat)/\ l=l.takeWhile (· != c)++c::r)
 | []=>.inl ⟨by simp[Lib.index],rfl,rfl⟩
 |b::l=>by
  by_cases h:b=c
  ·subst h
   refine .inr ⟨l,by simp,?_,by simp⟩
   have hp:([b].isPrefixOf (b::l))=true:=by show(b==b&& ([]:Bs).isPrefixOf l)=true;simp
   rw[Lib.index,hp];simp
  ·have hn:(b != c)=true:=by simpa using h
   have hp:([c].isPrefixOf (b::l))=false:=by show(c==b&& ([]:Bs).isPrefixOf l)=false;rw[show(c==b)=false by simpa using fun e=>h e.symm];rfl
   simp only[List.takeWhile_cons,List.dropWhile_cons,hn,if_true,Lib.index,hp];rcases zh c l with⟨h1,h2,h3⟩| ⟨r,h1,h2,h3⟩
   ·exact .inl ⟨by simp[h1],by rw[h2],h3⟩
   ·refine .inr ⟨r,h1,?_,?_⟩
    ·rw[h2]
     simp
    ·simp only[List.cons_append];rw[<- h3]
theorem cut_1 (c:UInt8) (l:Bs):Lib.cut l [c]=(l.takeWhile (· != c),(l.dropWhile (· != c)).tail,!(l.dropWhile (· != c)).isEmpty):=by
 unfold Lib.cut;rcases zh c l with⟨h1,h2,h3⟩| ⟨r,h1,h2,h3⟩
 ·rw[h1,h2,h3];rfl
 ·rw[if_pos (by omega),h1,h2]
  generalize l.takeWhile (· != c)=t at h3
  subst h3;simp
def iP (c:UInt8) (l:Bs):Bs:=l.takeWhile (· != c)
def tC (c:UInt8) (l:Bs):Bs:=(l.dropWhile (· != c)).tail
def hasB (c:UInt8) (l:Bs):Bool:= !(l.dropWhile (· != c)).isEmpty
theorem zU (s:ByteArray) (c:UInt8) (w:World) (hs:s.size<4294967281) (hm:ML w):
 Calls Tryz.prog 381 #[.string s,.string ⟨#[c]⟩] w fun e w'=>e= .returned (.tuple #[sv (iP c s.data.toList),sv (tC c s.data.toList),.bool (hasB c s.data.toList)])/\ Below w.heap.size w w':=by
 obtain⟨m,hm⟩:=hm;refine(Tryz.strings_Cut s ⟨#[c]⟩ m w hs hm).mono ?_;rw[show(⟨#[c]⟩:ByteArray).data.toList= [c]from rfl,cut_1]
 rintro e w' ⟨rfl,n,rfl⟩;exact⟨rfl,below_drewN' (Below.refl _ _) n⟩
theorem qA (c:UInt8) (l:Bs):(iP c l).length<= l.length:=(List.takeWhile_sublist _).length_le
theorem zW (c:UInt8) (l:Bs):(tC c l).length<= l.length:=by
 unfold tC;have:=(List.dropWhile_sublist (l:=l) (· != c)).length_le
 simp;omega
def numO (l:Bs):Option Int:=dA 10 15 l
theorem num_O (s:ByteArray) (w:World) (hs:s.size<= maxLen):
 Calls Tryz.prog 105 #[.string s] w fun e w'=>e= .returned (.tuple #[.int .i64 ((numO s.data.toList).getD 0),.bool (numO s.data.toList).isSome])/\ Below w.heap.size w w':=FB s w hs
theorem Tv (b:UInt8):NQ b=ofB [45,46] b:=by
 have: ∀x:Fin 256,NQ (UInt8.ofNat x.val)=ofB [45,46] (UInt8.ofNat x.val):=by decide +kernel
 have h:=this ⟨b.toNat,b.toNat_lt⟩;simpa using h
theorem Iw (l:Bs):tN l=((!hasB 58 l||Tj (tC 58 l))&&decide (1<=(iP 58 l).length)&&decide ((iP 58 l).length<= 100)&&allOf [45,46] (iP 58 l)):=by
 have e:NQ=ofB [45,46]:=funext Tv;simp only[tN,hasB,tC,iP,allOf,Bool.not_not,e];rfl
theorem qB (s:ByteArray) (w:World) (hs:s.size<4294967281) (hm:ML w):
 Calls Tryz.prog 365 #[.string s] w fun e w'=>e= .returned (.bool (tN s.data.toList))/\ Below w.heap.size w w':=by
 have h1:=qA 58 s.data.toList;have h2:=zW 58 s.data.toList;rw[au]at h1 h2;have HP:=Lib.hid (Iw s.data.toList);generalize hh:tN s.data.toList=Hst at HP;clear hh;go_enter Tryz.func365,Tryz.ntmps365
 go_wp2_with fail
 refine(zU s 58 w hs hm).mono ?_;rintro e w1 ⟨rfl,L1⟩;have hF:(⟨(iP 58 s.data.toList).toArray⟩:ByteArray).size<= maxLen:=by show(iP 58 s.data.toList).length<= maxLen;unfold maxLen;omega
 have hT:(⟨(tC 58 s.data.toList).toArray⟩:ByteArray).size<= maxLen:=by show(tC 58 s.data.toList).length<= maxLen;unfold maxLen;omega
 clear hm;cases hB:hasB 58 s.data.toList
 all_goals
  rw[hB]at HP;clear hB;generalize iP 58 s.data.toList=F at*;generalize tC 58 s.data.toList=T at*
 ·go_wp2_with (go_at_call 382;refine(zT ⟨F.toArray⟩ ⟨#[45,46]⟩ _ hF).mono ?_;rintro e w' ⟨rfl,rfl⟩)
  all_goals go_ret
  all_goals exact⟨fO (by rw[HP.out];by_cases a1:1<= F.length<;>by_cases a2:F.length<= 100<;>simp[a1,a2]<;>omega),L1⟩
 ·cases hN:numO T
  all_goals
   have HN:=Lib.hid hN;clear hN;go_wp2_with fail
   refine(num_O ⟨T.toArray⟩ _ hT).mono ?_;rw[show(⟨T.toArray⟩:ByteArray).data.toList=T from rfl,HN.out]
   rintro e w2 ⟨rfl,L2⟩;have K2:=stepW L1 L2;have HQ:=Lib.hid (show Tj T=(decide (T.length<= 5)&& (numO T).any fun n=>decide (n<= 65535))from rfl)
   go_wp2_with (go_at_call 382;refine(zT ⟨F.toArray⟩ ⟨#[45,46]⟩ _ hF).mono ?_;rintro e w' ⟨rfl,rfl⟩)
   all_goals go_ret
   all_goals exact⟨fO (by rw[HP.out,HQ.out,HN.out];by_cases a1:1<= F.length<;>by_cases a2:F.length<= 100<;>by_cases a3:T.length<= 5<;>simp[a1,a2,a3]<;>omega),K2⟩
theorem NT (a b:UInt8):dA 16 12 [a,b]=if bD a.toNat<0\/ bD b.toNat<0 then none else some (bD a.toNat*16+bD b.toNat):=by
 have h1:=vF a.toNat (by omega) (CX a)
 have h2:=vF b.toNat (by omega) (CX b)
 simp only[dA,jM,List.length_cons,List.length_nil];rw[if_neg (by omega)]
 split
 ·rw[if_pos (by omega)]
 ·split
  ·rw[if_pos (by omega)]
  ·rw[if_neg (by omega)];congr 1;omega
theorem Tz (a b x:UInt8) (h:FD a b=some x): ∃n:Int,dA 16 12 [a,b]=some n/\ n=x.toNat/\ 1<= n/\ n<= 255:=by
 have h1:=vF a.toNat (by omega) (CX a)
 have h2:=vF b.toNat (by omega) (CX b)
 unfold FD at h;split at h
 ·cases h
 ·rename_i hc
  injection h with h
  rw[NT,if_neg (by omega)]
  refine⟨_,rfl,?_,by omega,by omega⟩
  rw[<- h,UInt8.toNat_ofNat'];omega
theorem TA (a b:UInt8) (h:FD a b=none):dA 16 12 [a,b]=none\/ dA 16 12 [a,b]=some 0:=by
 unfold FD at h;rw[NT];split at h
 ·rename_i hc
  by_cases h0:bD a.toNat<0\/ bD b.toNat<0
  ·exact .inl (by rw[if_pos h0])
  ·exact .inr (by rw[if_neg h0];congr 1;omega)
 ·cases h
def ZP (o:Option Bs):Value:=.tuple #[sv (o.getD []),.int .i64 (if o.isSome then 0 else 8)]
theorem Pe:ZP none= .tuple #[sv [],.int .i64 8]:=rfl
theorem Pg (l:Bs):ZP (some l)= .tuple #[sv l,.int .i64 0]:=rfl
def TB (l:Bs):Option Int:=dA 16 12 l
theorem ZF (s:ByteArray) (w:World) (hs:s.size<= maxLen):
 Calls Tryz.prog 164 #[.string s] w fun e w'=>e= .returned (.tuple #[.int .i64 ((TB s.data.toList).getD 0),.bool (TB s.data.toList).isSome])/\ Below w.heap.size w w':=ru s w hs
theorem XP (s:ByteArray) (k:Nat) (a b:UInt8) (r:Bs) (h:s.data.toList.drop k=a::b::r):s.extract k (k+2)=⟨#[a,b]⟩:=by
 apply fQ;rw[pX,h,show k+2-k=2 by omega]
 rfl
theorem TD (s:ByteArray) (k:Nat) (h:k+1<s.size): ∃a b:UInt8,s.data.toList.drop k=a::b::s.data.toList.drop (k+2):=
 ⟨s[k],s[k+1],by rw[drop_cons s k (by omega),drop_cons s (k+1) h]⟩
theorem NU (l:Bs) (x:UInt8) (o:Option Bs):(o.map (x:: ·)).map (l++ ·)=o.map (l++ [x]++ ·):=by
 cases o<;>simp
theorem KO (s:ByteArray) (w:World) (hs:s.size<4294967281):
 Calls Tryz.prog 387 #[.string s] w fun e w'=>e= .returned (ZP (decodeL s.data.toList))/\ Below w.heap.size w w':=by
 go_enter Tryz.func387,Tryz.ntmps387
 go_wp2
 go_loopw [4,5] (fun v i wr=> ∃(k:Nat) (l:Bs),k<= s.size/\ i= .int .i64 k/\ OB wr w.heap.size v l/\ l.length<= k/\ Hid (decodeL s.data.toList=(decodeL (s.data.toList.drop k)).map (l++ ·))/\ Below w.heap.size w wr) (fun _ i _=>s.size- (intOf i).toNat)
 case atStart=>exact⟨0,[],Nat.zero_le _,rfl,OB.nil _ _,Nat.le_refl _,by show decodeL s.data.toList=_;simp,Below.refl _ _⟩
 case round=>
  obtain⟨k,l,hk,rfl,ho,hl,H,L⟩:=hrel;by_cases hlt:k<s.size
  ·obtain⟨b,hb,hbt⟩:=dP s k hlt
   have hbs:=PlainAid.get_bt s;have hb8:=CX b;by_cases hp:b=37
   ·subst hp
    have hq:PlainAid.bt s k=37:=hbt;clear hbt;by_cases h2:k+2<s.size
    ·obtain⟨x,y,hxy⟩:=TD s (k+1) (by omega)
     have he:=XP s (k+1) x y _ hxy;rw[show k+1+2=k+3 from rfl]at he hxy
     have Hb:=Lib.hid hb;clear hb;have Hxy:=Lib.hid hxy;clear hxy;have hD:decodeL s.data.toList=((FD x y).bind fun z=>(decodeL (s.data.toList.drop (k+3))).map (z:: ·)).map (l++ ·):=by rw[H.out,Hb.out,Hxy.out,yD]
     have HD:=Lib.hid hD;clear hD H;cases hpc:FD x y with
     |none=>
      rw[hpc]at HD;have hn:TB [x,y]=none\/ TB [x,y]=some 0:=TA x y hpc;go_wp2_with fail
      refine(ZF ⟨#[x,y]⟩ _ (show(2:Nat)<= maxLen by decide)).mono ?_
      rw[show(⟨#[x,y]⟩:ByteArray).data.toList= [x,y]from rfl]
      rcases hn with hn|hn;all_goals
       rw[hn];clear hn;rintro e w1 ⟨rfl,L1⟩;go_wp2
       go_ret2
       exact⟨by rw[HD.out];rfl,stepW L L1⟩
     |some z=>
      rw[hpc]at HD;obtain⟨n,hn,hnz,h1,h255⟩:=Tz x y z hpc;have hn':TB [x,y]=some n:=hn;have Hnz:=Lib.hid hnz;clear hn hnz;go_wp2_with fail
      refine(ZF ⟨#[x,y]⟩ _ (show(2:Nat)<= maxLen by decide)).mono ?_
      rw[show(⟨#[x,y]⟩:ByteArray).data.toList= [x,y]from rfl,hn']
      clear hn';rintro e w1 ⟨rfl,L1⟩;have K1:=stepW L L1;have ho1:=ho.ah L1;have hS:=K1.size;go_wp2_with (at_builtin;refine iw rfl _ _ rfl w.heap.size _ l rfl ho1 _ rfl _ rfl z Hnz.out (by omega) hS ?_;intro v' w2 ho2 hx)
      go_roundw
      case rel=>exact⟨k+3,l++ [z],by omega,by go_num,ho2,by simp;omega,by rw[HD.out,Option.bind_some,NU];exact Lib.hid rfl,K1.trans (hx.below ho1 (Nat.le_refl _) hS)⟩
      case measure=>simp[intOf];omega
    ·have hD:decodeL s.data.toList=none:=by
      rw[H.out,hb];have hlen:(s.data.toList.drop (k+1)).length<= 1:=by rw[List.length_drop,au];omega
      match s.data.toList.drop (k+1),hlen with
      | [],_=>rw[qj];rfl
      | [x],_=>rw[qo];rfl
      |_::_::_,h=>simp at h
     have HD:=Lib.hid hD;clear hD hb H;go_wp2
     go_ret2
     exact⟨by rw[HD.out];rfl,L⟩
   ·have hD:decodeL s.data.toList=(decodeL (s.data.toList.drop (k+1))).map (l++ [b]++ ·):=by rw[H.out,hb,tX b _ hp,NU]
    have HD:=Lib.hid hD;have hne:((b.toNat:Int)==37)=false:=by
     rw[Bool.eq_false_iff];intro h;exact hp (Ic (by have:=beq_iff_eq.1 h;simp;omega))
    have hS:=L.size;clear hD hb H hp;go_wp2_with (at_builtin;refine iw rfl _ _ rfl w.heap.size _ l rfl ho _ rfl _ rfl b rfl (by omega) hS ?_;intro v' w2 ho2 hx)
    go_roundw
    case rel=>exact⟨k+1,l++ [b],by omega,by go_num,ho2,by simp;omega,HD,L.trans (hx.below ho (Nat.le_refl _) hS)⟩
    case measure=>simp[intOf];omega
  ·have hD:decodeL s.data.toList=some l:=by rw[H.out,drop_end s k (by omega)];simp[decodeL]
   have HD:=Lib.hid hD;clear hD H;go_wp2_with (refine Iu rfl (.tmp 49) rfl _ _ l rfl ho ?_)
   go_ret2
   exact⟨by rw[HD.out];rfl,L⟩
theorem tZ (c:UInt8): ∀(t r:Bs),(∀b∈t,b≠c)-> aS c (t++c::r)=t::aS c r
 | [],r,_=>by simp[aS]
 |b::t,r,h=>by
  have hb:b≠c:=h b (by simp)
  rw[List.cons_append,aS,if_neg hb,tZ c t r (fun x hx=>h x (by simp[hx]))]
theorem qC (c:UInt8): ∀(t:Bs),(∀b∈t,b≠c)-> aS c t= [t]
 | [],_=>rfl
 |b::t,h=>by
  have hb:b≠c:=h b (by simp)
  rw[aS,if_neg hb,qC c t (fun x hx=>h x (by simp[hx]))]
theorem gU (c:UInt8): ∀(l:Bs),∀b∈l.takeWhile (· != c),b≠c
 | [],b,hb=>by simp at hb
 |x::l,b,hb=>by
  rw[List.takeWhile_cons]at hb;split at hb
  ·rename_i h
   rcases List.mem_cons.1 hb with rfl|hb
   ·simpa using h
   ·exact gU c l b hb
  ·simp at hb
theorem Iy (c:UInt8): ∀(k:Nat) (l:Bs),l.count c<= k-> Lib.splitK [c] 0 k l=aS c l
 |0,l,h=>by
  rw[Lib.splitK,qC c l (fun b hb e=>by subst e;have:=List.count_pos_iff.2 hb;omega)]
 |k+1,l,h=>by
  rw[Lib.splitK];rcases zh c l with⟨h1,h2,h3⟩| ⟨r,h1,h2,h3⟩
  ·rw[h1,if_pos (by rfl),qC c l (fun b hb e=>by rw[<- h2]at hb;exact gU c l b hb e)]
  ·rw[h2,if_neg (by simp)]
   have hc:l.count c=1+r.count c:=by
    rw[h3,List.count_append,List.count_cons_self];have:(l.takeWhile (· != c)).count c=0:=List.count_eq_zero.2 (fun hm=>gU c l c hm rfl)
    omega
   have ht:=gU c l;generalize l.takeWhile (· != c)=t at h3 ht
   subst h3;rw[tZ c t r ht,<- Iy c k r (by omega)]
   simp
theorem FQ (c:UInt8): ∀(f:Nat) (l:Bs),l.length<f-> Lib.countFrom [c] f l=l.count c
 |0,l,h=>by omega
 |f+1,l,h=>by
  rw[Lib.countFrom];rcases zh c l with⟨h1,h2,h3⟩| ⟨r,h1,h2,h3⟩
  ·rw[h1,if_pos (by rfl)]
   exact(List.count_eq_zero.2 (fun hm=>by rw[<- h2]at hm;exact gU c l c hm rfl)).symm
  ·rw[h2,if_neg (by simp)]
   have ht:=gU c l;generalize l.takeWhile (· != c)=t at h3 ht
   subst h3;have e:(t++c::r).drop ((t.length:Int).toNat+ [c].length)=r:=by simp
   rw[e,FQ c f r (by simp at h;omega),List.count_append,List.count_cons_self,List.count_eq_zero.2 (fun hm=>ht c hm rfl)]
   omega
theorem TF (c:UInt8) (s:ByteArray):(Lib.splitB ⟨#[c]⟩ 0 (Lib.countB s ⟨#[c]⟩) s).map (·.data.toList)=aS c s.data.toList:=by
 rw[Lib.splitB_data];exact Iy c _ _ (by rw[Lib.countB,Lib.count,show(⟨#[c]⟩:ByteArray).data.toList= [c]from rfl,FQ c _ _ (by omega)];exact Nat.le_refl _)
theorem kS (c:UInt8): ∀(l:Bs),(aS c l).length=l.count c+1
 | []=>rfl
 |b::l=>by
  have ih:=kS c l;rw[aS];split
  ·rename_i h
   subst h;rw[List.length_cons,ih,List.count_cons_self]
  ·rename_i h
   obtain⟨p,ps,h1⟩:=List.exists_cons_of_ne_nil (qZ c l);rw[List.count_cons_of_ne h,<- ih,h1];rfl
theorem oI (s:ByteArray) (c:UInt8) (w:World) (hs:s.size<4294967281) (hm:ML w):
 Calls Tryz.prog 211 #[.string s,.string ⟨#[c]⟩] w fun e w'=>e= .returned (.slice (some ⟨w.heap.size,0,none⟩) (aS c s.data.toList).length (aS c s.data.toList).length)/\ Rd w' w'.heap.size 1 (some ⟨w.heap.size,0,none⟩) (aS c s.data.toList).length ((aS c s.data.toList).map tv)/\ Below w.heap.size w w':=by
 obtain⟨m,hm⟩:=hm;refine(Tryz.strings_Split s ⟨#[c]⟩ m w hs hm (Nat.le_refl 1)).mono ?_;rintro e w' ⟨rfl,rfl⟩;have h1:=TF c s;have hl:Lib.countB s ⟨#[c]⟩+1=(aS c s.data.toList).length:=by
  rw[kS,Lib.countB,Lib.count,show(⟨#[c]⟩:ByteArray).data.toList= [c]from rfl,FQ c _ _ (by omega)]
 have h2:(Lib.splitB ⟨#[c]⟩ 0 (Lib.countB s ⟨#[c]⟩) s).map Value.string=(aS c s.data.toList).map tv:=by
  rw[<- h1,List.map_map];exact List.map_congr_left fun x _=>by simp
 rw[hl,h2];refine⟨rfl,?_,(Below.refl _ _).alloc (Nat.le_refl _) _⟩;exact(Rd.new w _ rfl ((aS c s.data.toList).map tv) _ _ 1 (by simp)).more (by simp)
def Iz (o:Option Bs):Value:=.tuple #[sv (o.getD []),.bool o.isSome]
theorem take_one {α:Type} (P:List α) (k:Nat) (p:α) (h:P[k]? = some p):P.take (k+1)=P.take k++ [p]:=by
 rw[List.take_add_one,h];rfl
theorem TG (P:List Bs) (k:Nat) (p:Bs) (ps:List Bs) (h:P[k]? = some p) (H:(P.take k).foldl pF (some [])=some ps):(P.take (k+1)).foldl pF (some [])=pF (some ps) p:=by
 rw[take_one P k p h,List.foldl_append,H];rfl
theorem last_one (P:List Bs) (k:Nat) (p:Bs) (h:P[k]? = some p):(P.take (k+1)).getLastD []=p:=by
 rw[take_one P k p h];simp
theorem Ph (P:List Bs) (k:Nat) (h:(P.take k).foldl pF (some [])=none):xq P=none:=by
 have e:P.foldl pF (some [])=none:=by
  rw[<- List.take_append_drop k P,List.foldl_append,h,KJ]
 rw[xq,e];rfl
theorem yE: ∀(l:Bs),dD (aS 47 l)=47::l
 | []=>rfl
 |b::l=>by
  have ih:=yE l;rw[aS];split
  ·rename_i h;subst h
   simp only[dD,List.flatMap_cons]at ih⊢;rw[ih];rfl
  ·obtain⟨p,ps,h1⟩:=List.exists_cons_of_ne_nil (qZ 47 l)
   rw[h1]at ih⊢;simp only[dD,List.flatMap_cons,List.cons_append,List.cons.injEq,true_and]at ih⊢;exact ih
theorem DN (a b:List Bs):dD (a++b)=dD a++dD b:=by simp[dD]
theorem zY (P:List Bs) (k:Nat):(dD (P.take k)).length<=(dD P).length:=by
 have:dD P=dD (P.take k)++dD (P.drop k):=by rw[<- DN,List.take_append_drop]
 rw[this,List.length_append];omega
theorem KP (ps:List Bs):(dD ps.dropLast).length<=(dD ps).length:=by
 rw[List.dropLast_eq_take];exact zY ps _
theorem Pj (ps:List Bs) (t:ByteArray) (h:t.data.toList=dD ps):t.toList.isEmpty=ps.isEmpty:=by
 rw[ByteArray.toList_eq,h];cases ps<;>simp[dD]
theorem DR (ps:List Bs) (k:Nat) (p:Bs) (h:ps[k]? = some p):dD (ps.take (k+1))=dD (ps.take k)++47::p:=by
 rw[take_one ps k p h];simp[dD]
theorem XQ (t:ByteArray) (ps:List Bs) (last:Bs) (ht:t.data.toList=dD ps) (hb:(OY last||ps.isEmpty)=true):Value.tuple #[.string (t++⟨#[47]⟩),.bool true]=Iz (some (endP ps last)):=by
 have e:(t++⟨#[47]⟩:ByteArray)=⟨(dD ps++ [47]).toArray⟩:=fQ (by rw[jL,ht])
 rw[e,endP,hb];rfl
theorem ZQ (t:ByteArray) (ps:List Bs) (last:Bs) (ht:t.data.toList=dD ps) (hb:(OY last||ps.isEmpty)=false):Value.tuple #[.string t,.bool true]=Iz (some (endP ps last)):=by
 have e:t=⟨(dD ps).toArray⟩:=fQ ht;rw[e,endP,hb];simp[Iz]
theorem xH (s:ByteArray) (w:World) (hs:s.size<4294967281) (hm:ML w):
 Calls Tryz.prog 169 #[.string s] w fun e w'=>e= .returned (Iz (oz s.data.toList))/\ Below w.heap.size w w':=by
 have hd:(s=⟨#[]⟩)\/ (0<s.size):=by
  rcases Nat.eq_zero_or_pos s.size with h|h
  ·exact .inl (iE h)
  ·exact .inr h
 rcases hd with rfl|hd
 ·go_enter Tryz.func169,Tryz.ntmps169
  go_wp2
  go_ret2
  exact⟨rfl,Below.refl _ _⟩
 ·obtain⟨b,hb,hbt⟩:=dP s 0 hd
  rw[List.drop_zero]at hb;have hne:=bI hd;have hbs:=PlainAid.get_bt s;by_cases h47:b=47
  ·subst h47
   have hq:PlainAid.bt s 0=47:=hbt;have hC:oz s.data.toList=xq (aS 47 s.data.toList):=by rw[oz,hb];rfl
   have HC:=Lib.hid hC;have hlen:(aS 47 s.data.toList).length<= 4294967281:=by
    rw[kS];have:=List.count_le_length (a:=(47:UInt8)) (l:=s.data.toList);rw[au]at this;omega
   have hpos:0< (aS 47 s.data.toList).length:=by rw[kS];omega
   clear hC hbt hb;go_enter Tryz.func169,Tryz.ntmps169
   go_wp2_with fail
   refine(oI s 47 w hs hm).mono ?_;rintro e w1 ⟨rfl,hr,L1⟩;have hJP:(dD (aS 47 s.data.toList)).length=s.size+1:=by rw[yE,List.length_cons,au]
   generalize hP:aS 47 s.data.toList=P at*;clear hP;have HJP:=Lib.hid hJP;clear hJP;obtain⟨g,o,hA,hg,hcells⟩:=hr.2 hpos;injection hA with hA
   injection hA with hA1 hA2
   subst hA1;subst hA2;clear hr;have HX:=Lib.hid hcells;clear hcells;go_wp2
   go_loopw [4,5,21] (fun v l i wr=> ∃(k:Nat) (ps:List Bs) (last:Bs),k<= P.length/\ i= .int .i64 k/\ l=sv last/\ OS wr w1.heap.size v ps/\ ps.length<= k/\ Hid ((P.take k).foldl pF (some [])=some ps)/\ Hid ((P.take k).getLastD []=last)/\ Hid ((dD ps).length<=(dD (P.take k)).length)/\ Below w1.heap.size w1 wr) (fun _ _ i _=>P.length- (intOf i).toNat)
   case atStart=>exact⟨0,[],[],Nat.zero_le _,rfl,rfl,OS.nil _ _,Nat.le_refl _,rfl,rfl,Nat.le_refl _,Below.refl _ _⟩
   case round=>
    obtain⟨k,ps,last,hk,rfl,rfl,ho,hl,H,HL,HZ,M⟩:=hrel;have L:=stepW L1 M;have hS:=M.size;by_cases hlt:k<P.length
    ·obtain⟨p,hp⟩: ∃p,P[k]? = some p:=⟨P[k],List.getElem?_eq_getElem hlt⟩
     have hcell:wr.cell? ⟨w.heap.size,k,none⟩=some (tv p):=by
      rw[M.cell (p:=⟨w.heap.size,k,none⟩) hg];have:=HX.out k (tv p) (by simp[hp])
      simpa using this
     have HF:=Lib.hid (TG P k p ps hp H.out);have HL':=Lib.hid (last_one P k p hp);have HZ':=Lib.hid (show(dD (P.take (k+1))).length=(dD (P.take k)).length+(p.length+1) by rw[DR P k p hp];simp)
     clear H HL hp;by_cases p1:p= []
     ·subst p1
      go_wp2
      go_roundw
      case rel=>exact⟨k+1,ps,[],by omega,by go_num,rfl,ho,by omega,HF,HL',by rw[HZ'.out];exact Nat.le_trans HZ.out (by omega),M⟩
      case measure=>simp[intOf];omega
     by_cases p2:p= [46]
     ·subst p2
      go_wp2
      go_roundw
      case rel=>exact⟨k+1,ps,[46],by omega,by go_num,rfl,ho,by omega,HF,HL',by rw[HZ'.out];exact Nat.le_trans HZ.out (by omega),M⟩
      case measure=>simp[intOf];omega
     have e1:List.isEmpty p=false:=by simp[p1]
     have e2:(p== [46])=false:=by simpa using p2
     by_cases p3:p= [46,46]
     ·subst p3
      by_cases pz:ps= []
      ·subst pz
       have HN:=Lib.hid (Ph P (k+1) HF.out);obtain⟨A,c,rfl,hc1,hc2,hrd⟩:=ho.form;go_wp2
       go_ret2
       exact⟨by rw[HC.out,HN.out];rfl,L⟩
      ·have hps:0<ps.length:=List.length_pos_iff.2 pz
       have hl0:((ps.length:Int)==0)=false:=by rw[Bool.eq_false_iff];intro h;have:=beq_iff_eq.1 h;omega
       obtain⟨g,c,rfl,ho'⟩:=Own.cut ho (k:=ps.length-1) (by omega) hps
       obtain⟨A,c',e',hc1,hc2,hrd⟩:=ho.form;injection e' with e1' e2' e3'
       subst e3';clear hrd e1' e2';have ho2:OS wr w1.heap.size (.slice (some ⟨g,0,none⟩) (ps.length-1) c) ps.dropLast:=by
        unfold OS;rw[List.length_dropLast];have:(ps.map tv).take ((ps.length-1)*1)=ps.dropLast.map tv:=by rw[Nat.mul_one,List.dropLast_eq_take,List.map_take]
        rw[<- this];exact ho'
       have HF2:Hid ((P.take (k+1)).foldl pF (some [])=some ps.dropLast):=by
        rw[HF.out,pF,Option.bind_some,if_neg (by simp),if_pos rfl,if_neg pz];exact Lib.hid rfl
       clear HF;go_wp2
       go_roundw
       case rel=>exact⟨k+1,ps.dropLast,[46,46],by omega,by go_num,rfl,ho2,by rw[List.length_dropLast];omega,HF2,HL',by rw[HZ'.out];exact Nat.le_trans (KP ps) (Nat.le_trans HZ.out (by omega)),M⟩
       case measure=>simp[intOf];omega
     ·have e3:(p== [46,46])=false:=by simpa using p3
      have HF2:Hid ((P.take (k+1)).foldl pF (some [])=some (ps++ [p])):=by
       rw[HF.out,pF,Option.bind_some,if_neg (by simp[p1,p2]),if_neg p3];exact Lib.hid rfl
      clear p1 p2 p3 HF;go_wp2_with (at_builtin;go_must (refine zQ rfl _ _ rfl w1.heap.size _ ps rfl ho _ rfl ⟨p.toArray⟩ rfl (by omega) hS ?_);intro v' w2 ho2 hx)
      have K2:Below w1.heap.size wr w2:=hx.below ho (Nat.le_refl _) hS;go_roundw
      case rel=>exact⟨k+1,ps++ [p],p,by omega,by go_num,rfl,ho2,by simp;omega,HF2,HL',by rw[HZ'.out,DN,List.length_append];exact Nat.add_le_add HZ.out (by simp[dD]),M.trans K2⟩
      case measure=>simp[intOf];omega
    ·have hkP:P.take k=P:=List.take_of_length_le (by omega)
     rw[hkP]at H HL HZ;have hzz:(dD ps).length<= 4294967282:=Nat.le_trans HZ.out (by rw[HJP.out];omega)
     have HZZ:=Lib.hid hzz;clear hzz;have HE:Hid (xq P=some (endP ps last)):=by rw[xq,H.out,HL.out];exact Lib.hid rfl
     clear H HL HZ hkP HX;obtain⟨A,c,rfl,hc1,hc2,hrd⟩:=ho.form;have hrd2:=Lib.hid hrd;clear hrd ho;go_wp2
     go_loop [8,47] (fun v i=> ∃(j:Nat) (t:ByteArray),j<= ps.length/\ i= .int .i64 j/\ v= .string t/\ Hid (t.data.toList=dD (ps.take j))) (fun _ i=>ps.length- (intOf i).toNat)
     case atStart=>exact⟨0,⟨#[]⟩,Nat.zero_le _,rfl,rfl,rfl⟩
     case round=>
      obtain⟨j,t,hj,rfl,rfl,HT⟩:=hrel;by_cases hjt:j<ps.length
      ·obtain⟨q,hq⟩: ∃q,ps[j]? = some q:=⟨ps[j],List.getElem?_eq_getElem hjt⟩
       obtain⟨g,o,rfl,hg2,hcs⟩:=hrd2.out.2 (by omega)
       have hcell:wr.cell? ⟨g,o+j,none⟩=some (tv q):=hcs j (tv q) (by simp[hq])
       have HJ:=Lib.hid (DR ps j q hq);have hz1:(dD (ps.take (j+1))).length<= 4294967282:=Nat.le_trans (zY ps _) HZZ.out;rw[HJ.out,List.length_append,List.length_cons,<- HT.out,au]at hz1;have hz2:t.size<= 4294967282:=by omega
       have hz3:q.length<= 4294967282:=by omega
       clear hz1;clear hcs hq;go_wp2
       go_round
       case rel=>exact⟨j+1,_,by omega,by go_num,rfl,by rw[HJ.out,jL,jL,HT.out];exact Lib.hid rfl⟩
       case measure=>simp[intOf];omega
      ·have hT:t.data.toList=dD ps:=by rw[HT.out,List.take_of_length_le (by omega)]
       have HT':=Lib.hid hT;have hTe:=Pj ps t hT;have HTe:=Lib.hid hTe;have hz2:t.size<= 4294967282:=by rw[<- au,hT];exact HZZ.out
       clear HT hT hTe;cases hq:(OY last||ps.isEmpty)
       ·have hq2:=hq
        have HQ:=Lib.hid hq;simp only[OY,Bool.or_eq_false_iff]at hq2;obtain⟨⟨⟨q1,q2⟩,q3⟩,q4⟩:=hq2;have q1':List.isEmpty last=false:=by cases last with|nil=>simp at q1|cons=>rfl
        have q4':t.toList.isEmpty=false:=HTe.out.trans q4;clear q1 hq;go_wp2
        go_ret2
        exact⟨by rw[HC.out,HE.out];exact congrArg Ending.returned (ZQ t ps last HT'.out HQ.out),L⟩
       ·have HQ:=Lib.hid hq
        clear hq;go_wp2
        all_goals first
         | (go_ret2;exact⟨by rw[HC.out,HE.out];exact congrArg Ending.returned (XQ t ps last HT'.out HQ.out),L⟩)
         | (exfalso;have hh:=HQ.out;rw[<- HTe.out]at hh;simp[OY, *]at hh)
  ·have hC:oz s.data.toList=none:=by rw[oz,hb,if_neg (by simpa using h47)]
   have HC:=Lib.hid hC;have hne2:((b.toNat:Int) != 47)=true:=by
    rw[bne_iff_ne];intro h;exact h47 (Ic (by simp;omega))
   clear hC hb h47;go_enter Tryz.func169,Tryz.ntmps169
   go_wp2
   go_ret2
   exact⟨by rw[HC.out];rfl,Below.refl _ _⟩
structure Tgt where
 form:Int
 host:Bs
 path:Bs
 query:Bs
deriving DecidableEq
def bY:Tgt:=⟨0,[],[],[]⟩
abbrev lF (t:Tgt):Value:=.agg #[.int .i64 t.form,sv t.host,sv t.path,sv t.query]
def tgR (r:Tgt×Int):Value:=.tuple #[lF r.1,.int .i64 r.2]
def ZR:Bs:= [45,46,95,126,33,36,38,39,40,41,42,43,44,59,61,58,64,47,37,63]
def vM (s:Bs):Option Bs:=if allOf ZR s then(decodeL (iP 63 s)).bind oz else none
def tH (t:Tgt) (s:Bs):Tgt×Int:=
 match vM s with
 |none=>(bY,8)
 |some p=>({ t with path:=p,query:=tC 63 s },0)
theorem Pm:Iz none= .tuple #[sv [],.bool false]:=rfl
theorem Pn (l:Bs):Iz (some l)= .tuple #[sv l,.bool true]:=rfl
theorem uF (t:Tgt) (s:ByteArray) (w:World) (hs:s.size<4294967281) (hm:ML w):
 Calls Tryz.prog 380 #[lF t,.string s] w fun e w'=>e= .returned (tgR (tH t s.data.toList))/\ Below w.heap.size w w':=by
 have h1:=qA 63 s.data.toList;have h2:=zW 63 s.data.toList;rw[au]at h1 h2;have hs':s.size<= maxLen:=by unfold maxLen;omega
 go_enter Tryz.func380,Tryz.ntmps380
 go_wp2_with fail
 refine(zT s _ _ hs').mono ?_;rw[show(⟨#[45,46,95,126,33,36,38,39,40,41,42,43,44,59,61,58,64,47,37,63]⟩:ByteArray).data.toList=ZR from rfl]
 cases hA:allOf ZR s.data.toList
 ·have HR:=Lib.hid (show tH t s.data.toList=(bY,8) by rw[tH,vM,hA];rfl)
  clear hA;rintro e w1 ⟨rfl,rfl⟩;go_wp2
  refine bodyPost_ret (v:=.tuple #[lF bY,.int .i64 8]) (by simp[results,Tryz.results380,go_sem,bY]) rfl ⟨by rw[HR.out];rfl,aj (aj (Below.refl _ _) _) _⟩
 ·rintro e w1 ⟨rfl,rfl⟩
  go_wp2_with fail
  obtain⟨W2,hW⟩: ∃W2,W2=((w.alloc (.cells #[.int .i64 t.form,sv t.host,sv t.path,sv t.query] 314)).alloc (.cells #[.int .i64 0,.string ⟨#[]⟩,.string ⟨#[]⟩,.string ⟨#[]⟩] 314)):=⟨_,rfl⟩;rw[<- hW];have B0:Blk W2 w.heap.size 314 #[.int .i64 t.form,sv t.host,sv t.path,sv t.query]:=by rw[hW];exact(Blk.new' _ _ rfl _ _).alloc _
  have B1:Blk W2 (w.heap.size+1) 314 #[.int .i64 0,.string ⟨#[]⟩,.string ⟨#[]⟩,.string ⟨#[]⟩]:=by rw[hW];exact Blk.new' _ _ (by simp) _ _
  have LW:Below w.heap.size w W2:=by rw[hW];exact aj (aj (Below.refl _ _) _) _
  have hm2:=hm.below LW (Nat.le_refl _);clear hW hm;refine(zU s 63 W2 hs hm2).mono ?_;rintro e w1 ⟨rfl,L1⟩;have hm3:=hm2.below L1 (Nat.le_refl _);go_wp2_with fail
  refine(KO ⟨(iP 63 s.data.toList).toArray⟩ w1 (Nat.lt_of_le_of_lt h1 hs)).mono ?_;rw[show(⟨(iP 63 s.data.toList).toArray⟩:ByteArray).data.toList=iP 63 s.data.toList from rfl]
  cases hD:decodeL (iP 63 s.data.toList)with
  |none=>
   have HR:=Lib.hid (show tH t s.data.toList=(bY,8) by rw[tH,vM,hA,if_pos rfl,hD];rfl)
   clear hA hD;rintro e w2 ⟨rfl,L2⟩;obtain⟨j0,j1,j2,j3,i0,i1,i2,i3⟩:=((B1.ah L1).ah L2).c4;rw[Pe];have LL:=stepW (stepW LW L1) L2;go_wp2
   refine bodyPost_ret (v:=.tuple #[lF bY,.int .i64 8]) (by simp[results,Tryz.results380,go_sem,bY,j0,j1,j2,j3]) rfl ⟨by rw[HR.out];rfl,?_⟩
   repeat refine setW ?_ (by simp) _
   exact LL
  |some d=>
   have hdl:=qw _ _ (Nat.le_refl _) d hD;rintro e w2 ⟨rfl,L2⟩;rw[Pg];have hm4:=hm3.below L2 (Nat.le_refl _);go_wp2_with fail
   refine(xH ⟨d.toArray⟩ w2 (Nat.lt_of_le_of_lt (Nat.le_trans hdl h1) hs) hm4).mono ?_;rw[show(⟨d.toArray⟩:ByteArray).data.toList=d from rfl]
   cases hC:oz d with
   |none=>
    have HR:=Lib.hid (show tH t s.data.toList=(bY,8) by rw[tH,vM,hA,if_pos rfl,hD,Option.bind_some,hC])
    clear hA hD hC hdl;rintro e w3 ⟨rfl,L3⟩;obtain⟨j0,j1,j2,j3,i0,i1,i2,i3⟩:=(((B1.ah L1).ah L2).ah L3).c4;have LL:=stepW (stepW (stepW LW L1) L2) L3;rw[Pm];go_wp2
    refine bodyPost_ret (v:=.tuple #[lF bY,.int .i64 8]) (by simp[results,Tryz.results380,go_sem,bY,j0,j1,j2,j3]) rfl ⟨by rw[HR.out];rfl,?_⟩
    repeat refine setW ?_ (by simp) _
    exact LL
   |some p=>
    have HR:=Lib.hid (show tH t s.data.toList=({ t with path:=p,query:=tC 63 s.data.toList },0) by rw[tH,vM,hA,if_pos rfl,hD,Option.bind_some,hC])
    clear hA hD hC hdl;rintro e w3 ⟨rfl,L3⟩;obtain⟨j0,j1,j2,j3,i0,i1,i2,i3⟩:=(((B1.ah L1).ah L2).ah L3).c4;obtain⟨k0,k1,k2,k3,g0,g1,g2,g3⟩:=(((B0.ah L1).ah L2).ah L3).c4;have LL:=stepW (stepW (stepW LW L1) L2) L3;rw[Pn];go_wp2
    refine bodyPost_ret (v:=.tuple #[lF { t with path:=p,query:=tC 63 s.data.toList },.int .i64 0]) (by simp[results,Tryz.results380,go_sem,j0,j1,j2,j3]) rfl ⟨by rw[HR.out];rfl,?_⟩
    repeat refine setW ?_ (by simp) _
    exact LL
end Go.Proofs.YtdmondfpepbniaaGreatDoor
