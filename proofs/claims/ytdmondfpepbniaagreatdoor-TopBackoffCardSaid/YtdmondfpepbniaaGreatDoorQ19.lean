/- Part 19 of the proof: Par. -/
import Derived.Test.YtdmondfpepbniaaGreatDoorQ11
import Derived.Test.YtdmondfpepbniaaGreatDoorQ17
import Derived.Test.YtdmondfpepbniaaGreatDoorQ18
namespace Go.Proofs.YtdmondfpepbniaaGreatDoor
open Go.RowKit
set_option maxRecDepth 100000
set_option maxHeartbeats 4000000
set_option linter.all false
structure PP where
 vl:Value
 vb:Value
 gh:Nat
 Sh:Nat-> Prop
 ck:Option Nat
 Sk:Nat-> Prop
 tag:Nat-> Nat
def aF (p:PS) (x:PP):Array Value:=#[.int .i64 p.phase,.int .i64 p.status,x.vl,.pointer (some ⟨x.gh,0,none⟩),.int .i64 p.left,x.vb,.pointer (x.ck.map fun k=>⟨k,0,none⟩),.int .i64 p.fed]
structure PK (w:World) (g:Nat) (cs:Array Value) (L B:Bs) (h:HS) (c:Option CS) (x:PP):Prop where
 blk:Blk w g 323 cs
 ol:OB w 0 x.vl L
 ob:OB w 0 x.vb B
 hh:HR w x.gh x.Sh h
 kk:(x.ck=none/\ c=none/\ ∀k,¬x.Sk k)\/ ∃gk r,x.ck=some gk/\ c=some r/\ KR w gk x.Sk r
 t0:x.tag g=0
 t1: ∀k,x.vl.ownBlock=some k-> x.tag k=1
 t2: ∀k,x.vb.ownBlock=some k-> x.tag k=2
 t3: ∀k,x.Sh k-> x.tag k=3
 t4: ∀k,x.Sk k-> x.tag k=4
def pS (g:Nat) (x:PP):Nat-> Prop:=fun k=>k=g\/ x.vl.ownBlock=some k\/ x.vb.ownBlock=some k\/ x.Sh k\/ x.Sk k
def retag (t:Nat-> Nat) (n i:Nat):Nat-> Nat:=fun k=>if k<n then t k else i
theorem aW {t:Nat-> Nat} {n i k:Nat} (h:k<n):retag t n i k=t k:=by unfold retag;rw[if_pos h]
theorem qR {t:Nat-> Nat} {n i k:Nat} (h:n<= k):retag t n i k=i:=by unfold retag;rw[if_neg (by omega)]
namespace PK
variable {w w':World} {g:Nat} {cs:Array Value} {L B L' B':Bs} {h h':HS} {c:Option CS} {x:PP}
theorem kr_lt (q:PK w g cs L B h c x) {k:Nat} (hk:x.Sk k):k<w.heap.size:=by
 rcases q.kk with⟨-,-,h0⟩| ⟨gk,r,-,-,h1⟩
 ·exact absurd hk (h0 k)
 ·exact h1.lt hk
theorem lt (q:PK w g cs L B h c x) {k:Nat} (hk:pS g x k):k<w.heap.size:=by
 rcases hk with rfl|hk|hk|hk|hk
 ·exact q.blk.lt
 ·exact Own.lt2 q.ol hk
 ·exact Own.lt2 q.ob hk
 ·exact q.hh.lt hk
 ·exact q.kr_lt hk
theorem fr {T:Nat-> Prop} (q:PK w g cs L B h c x) (hf:Fr T w w') (hs: ∀k,pS g x k-> ¬T k):PK w' g cs L B h c x:=
 ⟨q.blk.fr hf (hs g (.inl rfl)),Own.fr q.ol hf fun k hk=>hs k (.inr (.inl hk)),Own.fr q.ob hf fun k hk=>hs k (.inr (.inr (.inl hk))),q.hh.fr hf fun k hk=>hs k (.inr (.inr (.inr (.inl hk)))),
   q.kk.imp id fun⟨gk,r,a,b,k⟩=>⟨gk,r,a,b,k.fr hf fun i hi=>hs i (.inr (.inr (.inr (.inr hi))))⟩,q.t0,q.t1,q.t2,q.t3,q.t4⟩
theorem ah (q:PK w g cs L B h c x) (hb:Below w.heap.size w w'):PK w' g cs L B h c x:=
 q.fr (Fr.dB hb) fun k hk hs=>by have:=q.lt hk;omega
end PK
structure PW (w0:World) (S:Nat-> Prop) (w:World) (g:Nat) (cs:Array Value) (L B:Bs) (h:HS) (c:Option CS) (x:PP):Prop where
 k:PK w g cs L B h c x
 m:Moved S (pS g x) w0 w
namespace PW
variable {w0 w w':World} {S:Nat-> Prop} {g:Nat} {cs:Array Value} {L B L' B':Bs} {h h':HS} {c:Option CS} {x:PP}
theorem refl (k:PK w g cs L B h c x):PW w (pS g x) w g cs L B h c x:=⟨k,Moved.refl _ _⟩
theorem ah (q:PW w0 S w g cs L B h c x) (hb:Below w.heap.size w w'):PW w0 S w' g cs L B h c x:=⟨q.k.ah hb,q.m.ah hb⟩
theorem ay (q:PW w0 S w g cs L B h c x) (i:Nat) (u:Value):PW w0 S (w.setCell ⟨g,i,none⟩ u) g (cs.setIfInBounds i u) L B h c x:=by
 have hfr:Fr (fun k=>k=g) w (w.setCell ⟨g,i,none⟩ u):=Fr.setCell (S:=fun k=>k=g) (Fr.refl _ w) (p:=⟨g,i,none⟩) (.inl rfl) u
 have ht: ∀ {k j:Nat},x.tag k=j-> j≠0-> ¬k=g:=fun h1 h2 h3=>h2 (by rw[<- h1,h3];exact q.k.t0)
 refine⟨⟨q.k.blk.ay i u,Own.fr q.k.ol hfr fun k hk=>ht (q.k.t1 k hk) (by decide),Own.fr q.k.ob hfr fun k hk=>ht (q.k.t2 k hk) (by decide),q.k.hh.fr hfr fun k hk=>ht (q.k.t3 k hk) (by decide),
  q.k.kk.imp id fun⟨gk,r,a,b,k⟩=>⟨gk,r,a,b,k.fr hfr fun i hi=>ht (q.k.t4 i hi) (by decide)⟩,q.k.t0,q.k.t1,q.k.t2,q.k.t3,q.k.t4⟩,?_⟩
 have h1:Moved (pS g x) (pS g x) w (w.setCell ⟨g,i,none⟩ u):=(Moved.refl _ _).ay (.inl rfl) u;exact q.m.trans h1
theorem FY (q:PW w0 S w g cs L B h c x) {vl':Value} (hx:Ext w w' x.vl vl') (ho:OB w' 0 vl' L'):PW w0 S w' g cs L' B h c { x with vl:=vl',tag:=retag x.tag w.heap.size 1 } :=by
 have ht: ∀ {k j:Nat},x.tag k=j-> j≠1-> ¬x.vl.ownBlock=some k:=fun h1 h2 h3=>h2 (by rw[<- h1];exact q.k.t1 _ h3)
 have hl:=fun {k} (hk:pS g x k)=>q.k.lt hk
 refine⟨⟨q.k.blk.fr hx.fr (ht q.k.t0 (by decide)),ho,Own.fr q.k.ob hx.fr fun k hk=>ht (q.k.t2 k hk) (by decide),q.k.hh.fr hx.fr fun k hk=>ht (q.k.t3 k hk) (by decide),
  q.k.kk.imp id fun⟨gk,r,a,b,k⟩=>⟨gk,r,a,b,k.fr hx.fr fun i hi=>ht (q.k.t4 i hi) (by decide)⟩,?_,fun k hk=> ?_,fun k hk=> ?_,fun k hk=> ?_,fun k hk=> ?_⟩,q.m.trans ⟨hx.fr.mono fun k hk=>.inl (.inr (.inl hk)),fun k hk=> ?_⟩⟩
 ·exact(aW (hl (.inl rfl))).trans q.k.t0
 ·rcases hx.own k hk with h1|h1
  ·exact(aW (hl (.inr (.inl h1)))).trans (q.k.t1 k h1)
  ·exact qR h1
 ·exact(aW (hl (.inr (.inr (.inl hk))))).trans (q.k.t2 k hk)
 ·exact(aW (hl (.inr (.inr (.inr (.inl hk)))))).trans (q.k.t3 k hk)
 ·exact(aW (hl (.inr (.inr (.inr (.inr hk)))))).trans (q.k.t4 k hk)
 ·rcases hk with rfl|hk|hk|hk|hk
  ·exact .inl (.inl rfl)
  ·rcases hx.own k hk with h1|h1
   ·exact .inl (.inr (.inl h1))
   ·exact .inr h1
  ·exact .inl (.inr (.inr (.inl hk)))
  ·exact .inl (.inr (.inr (.inr (.inl hk))))
  ·exact .inl (.inr (.inr (.inr (.inr hk))))
theorem Dh (q:PW w0 S w g cs L B h c x) {vb':Value} (hx:Ext w w' x.vb vb') (ho:OB w' 0 vb' B'):PW w0 S w' g cs L B' h c { x with vb:=vb',tag:=retag x.tag w.heap.size 2 } :=by
 have ht: ∀ {k j:Nat},x.tag k=j-> j≠2-> ¬x.vb.ownBlock=some k:=fun h1 h2 h3=>h2 (by rw[<- h1];exact q.k.t2 _ h3)
 have hl:=fun {k} (hk:pS g x k)=>q.k.lt hk
 refine⟨⟨q.k.blk.fr hx.fr (ht q.k.t0 (by decide)),Own.fr q.k.ol hx.fr fun k hk=>ht (q.k.t1 k hk) (by decide),ho,q.k.hh.fr hx.fr fun k hk=>ht (q.k.t3 k hk) (by decide),
  q.k.kk.imp id fun⟨gk,r,a,b,k⟩=>⟨gk,r,a,b,k.fr hx.fr fun i hi=>ht (q.k.t4 i hi) (by decide)⟩,?_,fun k hk=> ?_,fun k hk=> ?_,fun k hk=> ?_,fun k hk=> ?_⟩,q.m.trans ⟨hx.fr.mono fun k hk=>.inl (.inr (.inr (.inl hk))),fun k hk=> ?_⟩⟩
 ·exact(aW (hl (.inl rfl))).trans q.k.t0
 ·exact(aW (hl (.inr (.inl hk)))).trans (q.k.t1 k hk)
 ·rcases hx.own k hk with h1|h1
  ·exact(aW (hl (.inr (.inr (.inl h1))))).trans (q.k.t2 k h1)
  ·exact qR h1
 ·exact(aW (hl (.inr (.inr (.inr (.inl hk)))))).trans (q.k.t3 k hk)
 ·exact(aW (hl (.inr (.inr (.inr (.inr hk)))))).trans (q.k.t4 k hk)
 ·rcases hk with rfl|hk|hk|hk|hk
  ·exact .inl (.inl rfl)
  ·exact .inl (.inr (.inl hk))
  ·rcases hx.own k hk with h1|h1
   ·exact .inl (.inr (.inr (.inl h1)))
   ·exact .inr h1
  ·exact .inl (.inr (.inr (.inr (.inl hk))))
  ·exact .inl (.inr (.inr (.inr (.inr hk))))
theorem extH (q:PW w0 S w g cs L B h c x) {Sh':Nat-> Prop} (hh:HR w' x.gh Sh' h') (hm:Moved x.Sh Sh' w w'):PW w0 S w' g cs L B h' c { x with Sh:=Sh',tag:=retag x.tag w.heap.size 3 } :=by
 have ht: ∀ {k j:Nat},x.tag k=j-> j≠3-> ¬x.Sh k:=fun h1 h2 h3=>h2 (by rw[<- h1];exact q.k.t3 _ h3)
 have hl:=fun {k} (hk:pS g x k)=>q.k.lt hk
 refine⟨⟨q.k.blk.fr hm.fr (ht q.k.t0 (by decide)),Own.fr q.k.ol hm.fr fun k hk=>ht (q.k.t1 k hk) (by decide),Own.fr q.k.ob hm.fr fun k hk=>ht (q.k.t2 k hk) (by decide),hh,
  q.k.kk.imp id fun⟨gk,r,a,b,k⟩=>⟨gk,r,a,b,k.fr hm.fr fun i hi=>ht (q.k.t4 i hi) (by decide)⟩,?_,fun k hk=> ?_,fun k hk=> ?_,fun k hk=> ?_,fun k hk=> ?_⟩,q.m.trans ⟨hm.fr.mono fun k hk=>.inl (.inr (.inr (.inr (.inl hk)))),fun k hk=> ?_⟩⟩
 ·exact(aW (hl (.inl rfl))).trans q.k.t0
 ·exact(aW (hl (.inr (.inl hk)))).trans (q.k.t1 k hk)
 ·exact(aW (hl (.inr (.inr (.inl hk))))).trans (q.k.t2 k hk)
 ·rcases hm.foot k hk with h1|h1
  ·exact(aW (hl (.inr (.inr (.inr (.inl h1)))))).trans (q.k.t3 k h1)
  ·exact qR h1
 ·exact(aW (hl (.inr (.inr (.inr (.inr hk)))))).trans (q.k.t4 k hk)
 ·rcases hk with rfl|hk|hk|hk|hk
  ·exact .inl (.inl rfl)
  ·exact .inl (.inr (.inl hk))
  ·exact .inl (.inr (.inr (.inl hk)))
  ·rcases hm.foot k hk with h1|h1
   ·exact .inl (.inr (.inr (.inr (.inl h1))))
   ·exact .inr h1
  ·exact .inl (.inr (.inr (.inr (.inr hk))))
theorem YR (q:PW w0 S w g cs L B h c x) {gk:Nat} {r:CS} {Sk':Nat-> Prop} (he:x.ck=some gk) (hk':KR w' gk Sk' r) (hm:Moved x.Sk Sk' w w'):PW w0 S w' g cs L B h (some r) { x with Sk:=Sk',tag:=retag x.tag w.heap.size 4 } :=by
 have ht: ∀ {k j:Nat},x.tag k=j-> j≠4-> ¬x.Sk k:=fun h1 h2 h3=>h2 (by rw[<- h1];exact q.k.t4 _ h3)
 have hl:=fun {k} (hk:pS g x k)=>q.k.lt hk
 refine⟨⟨q.k.blk.fr hm.fr (ht q.k.t0 (by decide)),Own.fr q.k.ol hm.fr fun k hk=>ht (q.k.t1 k hk) (by decide),Own.fr q.k.ob hm.fr fun k hk=>ht (q.k.t2 k hk) (by decide),q.k.hh.fr hm.fr fun k hk=>ht (q.k.t3 k hk) (by decide),
  .inr ⟨gk,r,he,rfl,hk'⟩,?_,fun k hk=> ?_,fun k hk=> ?_,fun k hk=> ?_,fun k hk=> ?_⟩,q.m.trans ⟨hm.fr.mono fun k hk=>.inl (.inr (.inr (.inr (.inr hk)))),fun k hk=> ?_⟩⟩
 ·exact(aW (hl (.inl rfl))).trans q.k.t0
 ·exact(aW (hl (.inr (.inl hk)))).trans (q.k.t1 k hk)
 ·exact(aW (hl (.inr (.inr (.inl hk))))).trans (q.k.t2 k hk)
 ·exact(aW (hl (.inr (.inr (.inr (.inl hk)))))).trans (q.k.t3 k hk)
 ·rcases hm.foot k hk with h1|h1
  ·exact(aW (hl (.inr (.inr (.inr (.inr h1)))))).trans (q.k.t4 k h1)
  ·exact qR h1
 ·rcases hk with rfl|hk|hk|hk|hk
  ·exact .inl (.inl rfl)
  ·exact .inl (.inr (.inl hk))
  ·exact .inl (.inr (.inr (.inl hk)))
  ·exact .inl (.inr (.inr (.inr (.inl hk))))
  ·rcases hm.foot k hk with h1|h1
   ·exact .inl (.inr (.inr (.inr (.inr h1))))
   ·exact .inr h1
theorem newK (q:PW w0 S w g cs L B h c x) {gk:Nat} {r:CS} {Sk':Nat-> Prop} (hb:Below w.heap.size w w') (hk':KR w' gk Sk' r) (hn: ∀k,Sk' k-> w.heap.size<= k):PW w0 S w' g cs L B h (some r) { x with ck:=some gk,Sk:=Sk',tag:=retag x.tag w.heap.size 4 } :=by
 have q':=q.ah hb;have hl:=fun {k} (hk:pS g x k)=>q.k.lt hk
 refine⟨⟨q'.k.blk,q'.k.ol,q'.k.ob,q'.k.hh,.inr ⟨gk,r,rfl,rfl,hk'⟩,?_,fun k hk=> ?_,fun k hk=> ?_,fun k hk=> ?_,fun k hk=>qR (hn k hk)⟩,⟨q'.m.fr,fun k hk=> ?_⟩⟩
 ·exact(aW (hl (.inl rfl))).trans q.k.t0
 ·exact(aW (hl (.inr (.inl hk)))).trans (q.k.t1 k hk)
 ·exact(aW (hl (.inr (.inr (.inl hk))))).trans (q.k.t2 k hk)
 ·exact(aW (hl (.inr (.inr (.inr (.inl hk)))))).trans (q.k.t3 k hk)
 ·rcases hk with hk|hk|hk|hk|hk
  ·exact q.m.foot k (.inl hk)
  ·exact q.m.foot k (.inr (.inl hk))
  ·exact q.m.foot k (.inr (.inr (.inl hk)))
  ·exact q.m.foot k (.inr (.inr (.inr (.inl hk))))
  ·exact .inr (Nat.le_trans q.m.fr.size (hn k hk))
theorem TV (q:PW w0 S w g cs L B h c x) (hL:0<L.length): ∃b cp,x.vl= .slice (some ⟨b,0,none⟩) L.length cp/\ PW w0 S w g cs [] B h c { x with vl:=.slice (some ⟨b,0,none⟩) 0 cp } :=by
 obtain⟨b,cp,e,ho⟩:=Own.cut q.k.ol (k:=0) (Nat.zero_le _) hL;have hown: ∀k,(Value.slice (some ⟨b,0,none⟩) 0 cp).ownBlock=some k-> x.vl.ownBlock=some k:=fun k hk=>by rw[e];exact hk
 exact⟨b,cp,e,⟨q.k.blk,by unfold OB;simpa using ho,q.k.ob,q.k.hh,q.k.kk,q.k.t0,fun k hk=>q.k.t1 k (hown k hk),q.k.t2,q.k.t3,q.k.t4⟩,⟨q.m.fr,fun k hk=>by
  rcases hk with hk|hk|hk|hk|hk
  ·exact q.m.foot k (.inl hk)
  ·exact q.m.foot k (.inr (.inl (hown k hk)))
  ·exact q.m.foot k (.inr (.inr (.inl hk)))
  ·exact q.m.foot k (.inr (.inr (.inr (.inl hk))))
  ·exact q.m.foot k (.inr (.inr (.inr (.inr hk))))⟩⟩
end PW
def PR (w:World) (g:Nat) (S:Nat-> Prop) (p:PS):Prop:= ∃x,S=pS g x/\ PK w g (aF p x) p.line p.body p.head p.chunks x
theorem Oi (w:World):
 Calls Tryz.prog 281 #[] w fun e w'=>(∃g S,e= .returned (.pointer (some ⟨g,0,none⟩))/\ PR w' g S p0/\ ∀k,S k-> w.heap.size<= k)/\ Below w.heap.size w w':=by
 go_enter Tryz.func281,Tryz.ntmps281
 go_wp2_with fail
 refine(Z7 w).mono ?_;rintro e w1 ⟨⟨g1,S1,rfl,k1,hS1⟩,L1⟩;go_wp2
 go_ret
 refine⟨⟨_,_,rfl,⟨⟨.slice none 0 0,.slice none 0 0,g1,S1,none,fun _=>False,fun k=>if k=w1.heap.size then 0 else 3⟩,rfl,⟨Blk.new' _ _ rfl _ _,OB.nil _ _,OB.nil _ _,k1.ah (aj (Below.refl _ _) _),.inl ⟨rfl,rfl,fun _ h=>h⟩,if_pos rfl,by simp[Value.ownBlock],by simp[Value.ownBlock],fun k hk=>if_neg (fun e=>by have:=k1.lt hk;omega),fun _ h=>h.elim⟩⟩,fun k hk=> ?_⟩,aj L1 _⟩
 rcases hk with rfl|hk|hk|hk|hk
 ·exact L1.size
 ·simp[Value.ownBlock]at hk
 ·simp[Value.ownBlock]at hk
 ·exact hS1 k hk
 ·exact hk.elim
theorem fC (g:Nat) (cs:Array Value) (st:Int) (w:World) (hb:Blk w g 323 cs) (h0: ∃u,cs[0]? = some u) (h1: ∃u,cs[1]? = some u):
 Calls Tryz.prog 311 #[.pointer (some ⟨g,0,none⟩),.int .i64 st] w fun e w'=>e= .returned (.tuple #[])/\ w'=if st=0 then w else(w.setCell ⟨g,0,none⟩ (.int .i64 4)).setCell ⟨g,1,none⟩ (.int .i64 st):=by
 obtain⟨u0,h0⟩:=h0;obtain⟨u1,h1⟩:=h1;have c0:=(hb.cell 0).trans h0;have c1:=(hb.cell 1).trans h1;have f0:=hb.frozen 0;have f1:=hb.frozen 1;by_cases hs:st=0
 ·subst hs
  go_enter Tryz.func311,Tryz.ntmps311
  go_wp2
  go_end0
  exact⟨rfl,rfl⟩
 ·have HS:=Lib.hid hs
  have hne:(st != 0)=true:=by rw[bne_iff_ne];exact hs
  clear hs;go_enter Tryz.func311,Tryz.ntmps311
  go_wp2
  go_end0
  exact⟨rfl,rfl⟩
theorem yN (g:Nat) (p:PS) (x:PP) (w:World) (q:PK w g (aF p x) p.line p.body p.head p.chunks x) (hl:HLen p.head):
 Calls Tryz.prog 330 #[.pointer (some ⟨g,0,none⟩)] w fun e w'=>e= .returned (.int .i64 (if p.head.begun then 431 else 414))/\ Below w.heap.size w w':=by
 have c3:w.cell? ⟨g,3,none⟩=some (.pointer (some ⟨x.gh,0,none⟩)):=q.blk.cell 3;have hS:=IX x.gh x.Sh p.head w q.hh;cases hb:p.head.begun
 ·have hm:p.head.method= []:=by
   apply Classical.byContradiction;intro h1;rw[hl.meth.2 h1]at hb;cases hb
  rw[hm,show sv []= .string ⟨#[]⟩from rfl]at hS
  unfold lF at hS;clear hm hb q;go_enter Tryz.func330,Tryz.ntmps330
  go_wp2_with fail
  refine hS.mono ?_;rintro e w1 ⟨rfl,L1⟩;have LA:=aj L1 (.cells #[.int .i64 p.head.tgt.form,sv p.head.tgt.host,sv p.head.tgt.path,sv p.head.tgt.query] 314);go_wp2
  go_ret
  exact⟨rfl,LA⟩
 ·have hm:=hl.meth.1 hb
  obtain⟨M,hM⟩: ∃M:ByteArray,sv p.head.method= .string M:=⟨⟨p.head.method.toArray⟩,rfl⟩;have hMe:M.toList.isEmpty=false:=by
   injection hM with hM
   rw[ByteArray.toList_eq,<- hM];simpa using hm
  rw[hM]at hS;unfold lF at hS;clear hm hb q hM;go_enter Tryz.func330,Tryz.ntmps330
  go_wp2_with fail
  refine hS.mono ?_;rintro e w1 ⟨rfl,L1⟩;have LA:=aj L1 (.cells #[.int .i64 p.head.tgt.form,sv p.head.tgt.host,sv p.head.tgt.path,sv p.head.tgt.query] 314);go_wp2
  go_ret
  exact⟨rfl,LA⟩
def yO (w:World) (g:Nat) (x:PP) (p:PS) (e:Ending) (w':World):Prop:=
 e= .returned (.tuple #[])/\ ∃x',PK w' g (aF p x') p.line p.body p.head p.chunks x'/\ Moved (pS g x) (pS g x') w w'
theorem qU {w w':World} {g:Nat} {x x':PP} {p:PS} {cs:Array Value} {L B:Bs} {h:HS} {c:Option CS} (q:PW w (pS g x) w' g cs L B h c x') (hc:cs=aF p x') (hL:L=p.line) (hB:B=p.body) (hh:h=p.head) (hk:c=p.chunks):yO w g x p (.returned (.tuple #[])) w':=by
 subst hc hL hB hh hk;exact⟨rfl,x',q.k,q.m⟩
theorem MF (g:Nat) (p:PS) (x:PP) (w:World) (q:PK w g (aF p x) p.line p.body p.head p.chunks x) (hl:HLen p.head):
 Calls Tryz.prog 332 #[.pointer (some ⟨g,0,none⟩)] w (yO w g x (jd p)):=by
 have q0:=PW.refl q;have c3:w.cell? ⟨g,3,none⟩=some (.pointer (some ⟨x.gh,0,none⟩)):=q.blk.cell 3;have hH:=Lc x.gh x.Sh p.head w q.hh;obtain⟨y,hy⟩: ∃y,y=p.head.how:=⟨_,rfl⟩;have l0:=hl.len0;have l1:=hl.len1;have lk:=hl.kind;rw[<- hy]at hH l0 l1 lk;unfold IG at hH;have hgl:=q.blk.lt;have HY:=Lib.hid hy;clear hy q hl;go_enter Tryz.func332,Tryz.ntmps332
 go_wp2_with fail
 refine hH.mono ?_;rintro e w1 ⟨rfl,L1⟩;have q1:=q0.ah L1;have LA:=aj (Below.refl w1.heap.size w1) (.cells #[.int .i64 y.kind,.int .i64 y.len,.bool y.close,.bool y.expect] 352);have BA:=Blk.new w1 352 #[.int .i64 y.kind,.int .i64 y.len,.bool y.close,.bool y.expect];have q2:=q1.ah LA;obtain⟨W,hW⟩: ∃W,W=w1.alloc (.cells #[.int .i64 y.kind,.int .i64 y.len,.bool y.close,.bool y.expect] 352):=⟨_,rfl⟩;rw[<- hW]at q2 BA;have hgW: ¬g=w1.heap.size:=by have:=q1.k.blk.lt;omega
 have hgW2: ¬w1.heap.size=g:=fun h=>hgW h.symm
 have hbl:=q2.k.blk;unfold aF at hbl;obtain⟨j0,j1,j2,j3,j4,j5,j6,j7,i0,i1,i2,i3,i4,i5,i6,i7⟩:=Blk.c8 hbl;obtain⟨k0,k1,k2,k3,-,-,-,-⟩:=BA.c4;rw[hW]at j0 j4 j6 i0 i4 i6 k0 k1 k2 k3;clear hH c3 q0 LA L1 j1 j2 j3 j5 j7 i1 i2 i3 i5 i7 hbl;by_cases hk2:y.kind=2
 ·have hz2:(y.kind==2)=true:=by rw[hk2];rfl
  have HE:=Lib.hid (show jd p= { p with phase:=2,chunks:=some cs0 } by rw[jd,if_pos (by rw[<- HY.out];exact hk2)])
  clear hk2 lk;have q3:=q2.ay 0 (.int .i64 2);rw[hW]at q3;go_wp2_with fail
  refine(Yv _).mono ?_;rintro e w4 ⟨gk,Sk,rfl,hK,hSk,L4⟩;have q4:=q3.newK L4 hK hSk;have f6:=q4.k.blk.frozen 6;have d6:=q4.k.blk.cell 6;unfold aF at d6;have q5:=q4.ay 6 (.pointer (some ⟨gk,0,none⟩));go_wp2
  go_end0
  exact qU q5 (by rw[HE.out];simp[aF]) (by rw[HE.out]) (by rw[HE.out]) (by rw[HE.out]) (by rw[HE.out])
 ·have hz2:(y.kind==2)=false:=by rw[Bool.eq_false_iff];intro h0;rw[beq_iff_eq]at h0;exact hk2 h0
  by_cases hl0:0<y.len
  ·have HE:=Lib.hid (show jd p= { p with phase:=2,left:=y.len.toNat } by rw[jd,if_neg (by rw[<- HY.out];exact hk2),if_pos (by rw[<- HY.out];exact hl0),<- HY.out])
   clear hk2 lk;have q3:=(q2.ay 0 (.int .i64 2)).ay 4 (.int .i64 y.len);rw[hW]at q3;go_wp2
   go_end0
   exact qU q3 (by rw[HE.out];simp[aF];omega) (by rw[HE.out]) (by rw[HE.out]) (by rw[HE.out]) (by rw[HE.out])
  ·have HE:=Lib.hid (show jd p= { p with phase:=3 } by rw[jd,if_neg (by rw[<- HY.out];exact hk2),if_neg (by rw[<- HY.out];exact hl0)])
   clear hk2 lk;have q3:=(q2.ay 0 (.int .i64 2)).ay 0 (.int .i64 3);rw[hW]at q3;go_wp2
   go_end0
   exact qU q3 (by rw[HE.out];simp[aF]) (by rw[HE.out]) (by rw[HE.out]) (by rw[HE.out]) (by rw[HE.out])
theorem VT {w W w':World} {g:Nat} {S:Nat-> Prop} {cs:Array Value} {L B:Bs} {h:HS} {c:Option CS} {x x':PP} {p:PS} {e:Ending} (q:PW w S W g cs L B h c x') (hS:S=pS g x) (hp:yO W g x' p e w'):yO w g x p e w':=by
 obtain⟨he,x2,h1,h2⟩:=hp;exact⟨he,x2,h1,hS▸q.m.trans h2⟩
theorem Bo (g:Nat) (p:PS) (x:PP) (w:World) (q:PK w g (aF p x) p.line p.body p.head p.chunks x) (hz:p.line.length<= 258) (hb:p.line.getLast? ≠some 13):
 Calls Tryz.prog 308 #[.pointer (some ⟨g,0,none⟩),.int .u8 10] w (yO w g x (gW p 10)):=by
 obtain⟨vl,vb,gh,Sh,ck,Sk,tag⟩:=x;have HR:=Lib.hid (show gW p 10= { p with phase:=4,status:=400 } by rw[gW,if_pos rfl,if_neg hb])
 have q0:=PW.refl q;have hRf:=fC g _ 400 w q.blk ⟨_,rfl⟩ ⟨_,rfl⟩;rw[if_neg (by decide)]at hRf
 have hbl:=q.blk;unfold aF at hbl;obtain⟨j0,j1,j2,j3,j4,j5,j6,j7,i0,i1,i2,i3,i4,i5,i6,i7⟩:=Blk.c8 hbl;have q5:=(q0.ay 0 (.int .i64 4)).ay 1 (.int .i64 400);have ol:=q.ol;dsimp only at ol j2;clear hbl j0 j1 j3 j4 j5 j6 j7 i0 i1 i2 i3 i4 i5 i6 i7 q;rcases oQ p.line with hl| ⟨P,y,hl⟩
 ·obtain⟨Al,cl,hvl,-,-,-⟩:=ol.form
  rw[hvl,hl]at j2;clear hb hl ol hvl;go_enter Tryz.func308,Tryz.ntmps308
  go_wp2_with fail
  refine hRf.mono ?_;rintro e w1 ⟨rfl,rfl⟩;go_wp2
  go_end0
  exact qU q5 (by rw[HR.out];simp[aF]) (by rw[HR.out]) (by rw[HR.out]) (by rw[HR.out]) (by rw[HR.out])
 ·have hy:y≠13:=by rintro rfl;exact hb (by rw[hl];simp)
  have hn:p.line.length=P.length+1:=by rw[hl];simp
  obtain⟨b,cap,hvl,-,-,hcap⟩:=Own.form ol (by omega)
  have ol2:=ol;rw[hvl]at ol2;obtain⟨hc1,-⟩:=Own.cellAt ol2 P.length (by omega)
  have hc3:w.cell? ⟨b,P.length,none⟩=some (.int .u8 (y.toNat:Int)):=by rw[hc1,hl];simp
  rw[hvl,hn]at j2;rw[hn]at hcap;have hx2:=Jb hy (n:=13) rfl;have hx3:((y.toNat:Int) != 13)=true:=by rw[bne,hx2];rfl
  have hp0:((P.length:Int)+1==0)=false:=by rw[Bool.eq_false_iff];intro h0;rw[beq_iff_eq]at h0;omega
  have hPz:P.length<= 257:=by omega
  clear hb hl ol hvl ol2 hc1 hn hz hy;go_enter Tryz.func308,Tryz.ntmps308
  go_wp2_with fail
  refine hRf.mono ?_;rintro e w1 ⟨rfl,rfl⟩;go_wp2
  go_end0
  exact qU q5 (by rw[HR.out];simp[aF]) (by rw[HR.out]) (by rw[HR.out]) (by rw[HR.out]) (by rw[HR.out])
theorem Bq (g:Nat) (p:PS) (x:PP) (c:UInt8) (w:World) (q:PK w g (aF p x) p.line p.body p.head p.chunks x) (hz:p.line.length<= 257) (hL:HLen p.head) (hp:p.phase=1) (hc:c≠10):
 Calls Tryz.prog 308 #[.pointer (some ⟨g,0,none⟩),.int .u8 (c.toNat:Int)] w (yO w g x (gW p c)):=by
 obtain⟨vl,vb,gh,Sh,ck,Sk,tag⟩:=x;have hE:gW p c=if 256<p.line.length+(if c=13 then 0 else 1)then { p with phase:=4,line:=p.line++ [c],status:=if p.head.begun=true then 431 else 414 } else { p with phase:=1,line:=p.line++ [c] } :=by rw[gW,if_neg hc]
 have ol:=q.ol;dsimp only at ol;obtain⟨Al,cl,hvl,-,-,-⟩:=ol.form;subst hvl;have q0:=PW.refl q;have hbl:=q.blk;unfold aF at hbl;obtain⟨j0,j1,j2,j3,j4,j5,j6,j7,i0,i1,i2,i3,i4,i5,i6,i7⟩:=Blk.c8 hbl;have hc1:=Jb hc (n:=10) rfl;have HP:=Lib.hid hp;obtain⟨st,hst⟩: ∃st:Int,st=if p.head.begun=true then 431 else 414:=⟨_,rfl⟩
 have hs0:st≠0:=by rw[hst];split<;>decide
 rw[<- hst]at hE;have HST:=Lib.hid hst;have HS0:=Lib.hid hs0;clear hst hs0;clear hbl j0 j1 j3 j4 j5 j6 j7 i0 i1 i3 i4 i5 i6 i7 q hp;by_cases h13:c=13
 ·have hc2:((c.toNat:Int)==13)=true:=by rw[h13];rfl
  have hc3:((c.toNat:Int) != 13)=false:=by rw[bne,hc2];rfl
  by_cases h256:256<p.line.length
  ·have HR:=Lib.hid (hE.trans (if_pos (by rw[if_pos h13];exact h256)))
   clear hE h13 hc;go_enter Tryz.func308,Tryz.ntmps308
   go_wp2_with (at_builtin;refine iw rfl _ _ rfl 0 (.slice Al p.line.length cl) _ rfl ol _ rfl _ rfl c rfl (by omega) (Nat.zero_le _) ?_;intro v' w2 ho2 hx;have q2:=q0.FY hx ho2;obtain⟨A3,c3,hv3,-,-,-⟩:=ho2.form;rw[show(p.line++ [c]).length=p.line.length+1 by simp]at hv3;subst hv3;clear ho2 hx;have f2:=q2.k.blk.frozen 2;have d2:=q2.k.blk.cell 2;unfold aF at d2)
   have q3:=q2.ay 2 (.slice A3 (p.line.length+1) c3);have q4:PW w (pS g ⟨.slice Al p.line.length cl,vb,gh,Sh,ck,Sk,tag⟩) (w2.setCell ⟨g,2,none⟩ (.slice A3 (p.line.length+1) c3)) g (aF { p with line:=p.line++ [c] } ⟨.slice A3 (p.line.length+1) c3,vb,gh,Sh,ck,Sk,retag tag w.heap.size 1⟩) (p.line++ [c]) p.body p.head p.chunks ⟨.slice A3 (p.line.length+1) c3,vb,gh,Sh,ck,Sk,retag tag w.heap.size 1⟩:=by
    have e:(aF p ⟨.slice Al p.line.length cl,vb,gh,Sh,ck,Sk,tag⟩).setIfInBounds 2 (.slice A3 (p.line.length+1) c3)=aF { p with line:=p.line++ [c] } ⟨.slice A3 (p.line.length+1) c3,vb,gh,Sh,ck,Sk,retag tag w.heap.size 1⟩:=by simp[aF]
    rw[<- e];exact q3
   have hT:=yN g { p with line:=p.line++ [c] } _ _ q4.k hL
   rw[show(if({ p with line:=p.line++ [c] } :PS).head.begun=true then(431:Int)else 414)=st from HST.out.symm]at hT
   refine hT.mono ?_;rintro e w4 ⟨rfl,L4⟩;have q5:=q4.ah L4;have hRf:=fC g _ st w4 q5.k.blk ⟨_,rfl⟩ ⟨_,rfl⟩;rw[if_neg HS0.out]at hRf;go_wp2_with fail
   refine hRf.mono ?_;rintro e w5 ⟨rfl,rfl⟩;go_wp2
   go_end0
   exact qU ((q5.ay 0 (.int .i64 4)).ay 1 (.int .i64 st)) (by rw[HR.out];simp[aF]) (by rw[HR.out]) (by rw[HR.out]) (by rw[HR.out]) (by rw[HR.out])
  ·have HR:=Lib.hid (hE.trans (if_neg (by rw[if_pos h13];exact h256)))
   have h256':p.line.length<= 256:=by omega
   clear hE h13 hc h256;go_enter Tryz.func308,Tryz.ntmps308
   go_wp2_with (at_builtin;refine iw rfl _ _ rfl 0 (.slice Al p.line.length cl) _ rfl ol _ rfl _ rfl c rfl (by omega) (Nat.zero_le _) ?_;intro v' w2 ho2 hx;have q2:=q0.FY hx ho2;obtain⟨A3,c3,hv3,-,-,-⟩:=ho2.form;rw[show(p.line++ [c]).length=p.line.length+1 by simp]at hv3;subst hv3;clear ho2 hx;have f2:=q2.k.blk.frozen 2;have d2:=q2.k.blk.cell 2;unfold aF at d2)
   go_end0
   exact qU (q2.ay 2 (.slice A3 (p.line.length+1) c3)) (by rw[HR.out];simp[aF,HP.out]) (by rw[HR.out]) (by rw[HR.out]) (by rw[HR.out]) (by rw[HR.out])
 ·have hc2:=Jb h13 (n:=13) rfl
  have hc3:((c.toNat:Int) != 13)=true:=by rw[bne,hc2];rfl
  by_cases h256:256<p.line.length+1
  ·have HR:=Lib.hid (hE.trans (if_pos (by rw[if_neg h13];exact h256)))
   clear hE h13 hc;go_enter Tryz.func308,Tryz.ntmps308
   go_wp2_with (at_builtin;refine iw rfl _ _ rfl 0 (.slice Al p.line.length cl) _ rfl ol _ rfl _ rfl c rfl (by omega) (Nat.zero_le _) ?_;intro v' w2 ho2 hx;have q2:=q0.FY hx ho2;obtain⟨A3,c3,hv3,-,-,-⟩:=ho2.form;rw[show(p.line++ [c]).length=p.line.length+1 by simp]at hv3;subst hv3;clear ho2 hx;have f2:=q2.k.blk.frozen 2;have d2:=q2.k.blk.cell 2;unfold aF at d2)
   have q3:=q2.ay 2 (.slice A3 (p.line.length+1) c3);have q4:PW w (pS g ⟨.slice Al p.line.length cl,vb,gh,Sh,ck,Sk,tag⟩) (w2.setCell ⟨g,2,none⟩ (.slice A3 (p.line.length+1) c3)) g (aF { p with line:=p.line++ [c] } ⟨.slice A3 (p.line.length+1) c3,vb,gh,Sh,ck,Sk,retag tag w.heap.size 1⟩) (p.line++ [c]) p.body p.head p.chunks ⟨.slice A3 (p.line.length+1) c3,vb,gh,Sh,ck,Sk,retag tag w.heap.size 1⟩:=by
    have e:(aF p ⟨.slice Al p.line.length cl,vb,gh,Sh,ck,Sk,tag⟩).setIfInBounds 2 (.slice A3 (p.line.length+1) c3)=aF { p with line:=p.line++ [c] } ⟨.slice A3 (p.line.length+1) c3,vb,gh,Sh,ck,Sk,retag tag w.heap.size 1⟩:=by simp[aF]
    rw[<- e];exact q3
   have hT:=yN g { p with line:=p.line++ [c] } _ _ q4.k hL
   rw[show(if({ p with line:=p.line++ [c] } :PS).head.begun=true then(431:Int)else 414)=st from HST.out.symm]at hT
   refine hT.mono ?_;rintro e w4 ⟨rfl,L4⟩;have q5:=q4.ah L4;have hRf:=fC g _ st w4 q5.k.blk ⟨_,rfl⟩ ⟨_,rfl⟩;rw[if_neg HS0.out]at hRf;go_wp2_with fail
   refine hRf.mono ?_;rintro e w5 ⟨rfl,rfl⟩;go_wp2
   go_end0
   exact qU ((q5.ay 0 (.int .i64 4)).ay 1 (.int .i64 st)) (by rw[HR.out];simp[aF]) (by rw[HR.out]) (by rw[HR.out]) (by rw[HR.out]) (by rw[HR.out])
  ·have HR:=Lib.hid (hE.trans (if_neg (by rw[if_neg h13];exact h256)))
   have h256':p.line.length+1<= 256:=by omega
   clear hE h13 hc h256;go_enter Tryz.func308,Tryz.ntmps308
   go_wp2_with (at_builtin;refine iw rfl _ _ rfl 0 (.slice Al p.line.length cl) _ rfl ol _ rfl _ rfl c rfl (by omega) (Nat.zero_le _) ?_;intro v' w2 ho2 hx;have q2:=q0.FY hx ho2;obtain⟨A3,c3,hv3,-,-,-⟩:=ho2.form;rw[show(p.line++ [c]).length=p.line.length+1 by simp]at hv3;subst hv3;clear ho2 hx;have f2:=q2.k.blk.frozen 2;have d2:=q2.k.blk.cell 2;unfold aF at d2)
   go_end0
   exact qU (q2.ay 2 (.slice A3 (p.line.length+1) c3)) (by rw[HR.out];simp[aF,HP.out]) (by rw[HR.out]) (by rw[HR.out]) (by rw[HR.out]) (by rw[HR.out])
theorem Bv (g:Nat) (p:PS) (x:PP) (P:Bs) (w:World) (q:PK w g (aF p x) p.line p.body p.head p.chunks x) (hz:p.line.length<= 258) (hI:AL p.head) (hL:HLen p.head) (hp:p.phase=1) (hl:p.line=P++ [13]) (hm:ML w) (hh:Hi (pS g x)):
 Calls Tryz.prog 308 #[.pointer (some ⟨g,0,none⟩),.int .u8 10] w (yO w g x (gW p 10)):=by
 have hE:gW p 10=Bj p (jP p.head P):=by rw[gW,if_pos rfl,if_pos (by rw[hl];simp),hl,List.dropLast_concat]
 have hLH:=Eu p.head P hL;obtain⟨vl,vb,gh,Sh,ck,Sk,tag⟩:=x;have ol:=q.ol;dsimp only at ol;have hn:p.line.length=P.length+1:=by rw[hl];simp
 have q0:=PW.refl q;obtain⟨b,cap,hv,qc⟩:=q0.TV (by omega)
 dsimp only at hv qc;subst hv;obtain⟨hc1,-⟩:=Own.cellAt ol P.length (by omega)
 have hc3:w.cell? ⟨b,P.length,none⟩=some (.int .u8 13):=by rw[hc1,hl];simp
 obtain⟨hb3,hb4,hb5⟩:=Own.rdS ol;have hrd:=Rd.zI hb5 (k:=P.length) (by omega)
 rw[Nat.mul_one,show(p.line.map bv).take P.length=P.map bv by rw[hl];simp]at hrd
 obtain⟨X,hX⟩: ∃X:ByteArray,X=⟨P.toArray⟩:=⟨_,rfl⟩;have HX:=Lib.hid (show X.data.toList=P by rw[hX])
 have hXs:X.size=P.length:=by rw[hX];exact(au _).symm
 have hcv:=iD (P:=Tryz.prog) hrd cap 33 5 9 Tryz.underlying33 Tryz.underlying5 Tryz.underlying9;rw[show sv P= .string X by rw[hX]]at hcv
 have hbl:=q.blk;unfold aF at hbl;obtain⟨j0,j1,j2,j3,j4,j5,j6,j7,i0,i1,i2,i3,i4,i5,i6,i7⟩:=Blk.c8 hbl;dsimp only at j2 j3;have hgb: ¬b=g:=fun e=>by have h1:=q.t1 b rfl;have h0:=q.t0;dsimp only at h1 h0;rw[e,h0]at h1;cases h1
 rw[hn]at j2 hb3;have hp0:((P.length:Int)+1==0)=false:=by rw[Bool.eq_false_iff];intro h0;rw[beq_iff_eq]at h0;omega
 have q1:=qc.ay 2 (.slice (some ⟨b,0,none⟩) 0 cap);have hm1:ML (w.setCell ⟨g,2,none⟩ (.slice (some ⟨b,0,none⟩) 0 cap)):=hm.fr q1.m.fr hh;have hhS:Hi Sh:=fun k hk=>hh k (.inr (.inr (.inr (.inl hk))))
 have hPz:P.length<= 257:=by omega
 have hC:=YM gh Sh p.head X _ q1.k.hh hI (by omega) hm1 hhS
 rw[HX.out]at hC;have HP:=Lib.hid hp;obtain⟨H,hH⟩: ∃H,H=jP p.head P:=⟨_,rfl⟩;rw[<- hH]at hC hE hLH;unfold oV at hC;clear hX hrd hb5 hb4 hc1 hbl ol qc q0 q hl hn hz hp hm1 hm hhS hh hI hL hH HX j0 j1 j4 j5 j6 j7 i0 i1 i3 i4 i5 i6 i7;obtain⟨st,hst⟩: ∃st,st=H.status:=⟨_,rfl⟩;obtain⟨wh,hwh⟩: ∃wh,wh=H.whole:=⟨_,rfl⟩;rw[<- hst,<- hwh]at hC;have HST:=Lib.hid hst;have HWH:=Lib.hid hwh;have HE:=Lib.hid hE;clear hst hwh hE;go_enter Tryz.func308,Tryz.ntmps308
 go_wp2_with fail
 refine hC.mono ?_;rintro e w2 ⟨rfl,S2,k2,m2⟩;have q2:=q1.extH k2 m2;dsimp only at q2;have hRf:=fC g _ st w2 q2.k.blk ⟨_,rfl⟩ ⟨_,rfl⟩;clear hC k2 m2 q1 hcv hc3 j2 j3 i2;by_cases h0:st=0
 ·rw[if_pos h0]at hRf
  subst h0;cases wh
  ·go_wp2_with fail
   refine hRf.mono ?_;rintro e w3 ⟨rfl,rfl⟩;go_wp2
   go_end0
   have hpe:Bj p H= { p with phase:=1,line:= [],head:=H } :=by
    rw[Bj,if_neg (by rw[<- HST.out];simp),if_neg (by rw[<- HWH.out];simp)]
   exact qU q2 (by rw[HE.out,hpe];simp[aF,HP.out]) (by rw[HE.out,hpe]) (by rw[HE.out,hpe]) (by rw[HE.out,hpe]) (by rw[HE.out,hpe])
  ·have hpe:Bj p H=jd { p with phase:=1,line:= [],head:=H } :=by
    rw[Bj,if_neg (by rw[<- HST.out];simp),if_pos HWH.out.symm]
   have HPE:=Lib.hid (HE.out.trans hpe);clear hpe;have q3:PK w2 g (aF { p with phase:=1,line:= [],head:=H } ⟨.slice (some ⟨b,0,none⟩) 0 cap,vb,gh,S2,ck,Sk,retag tag (w.setCell ⟨g,2,none⟩ (.slice (some ⟨b,0,none⟩) 0 cap)).heap.size 3⟩) [] p.body H p.chunks ⟨.slice (some ⟨b,0,none⟩) 0 cap,vb,gh,S2,ck,Sk,retag tag (w.setCell ⟨g,2,none⟩ (.slice (some ⟨b,0,none⟩) 0 cap)).heap.size 3⟩:=by
    have h9:=q2.k;have e9:(aF p ⟨.slice (some ⟨b,0,none⟩) p.line.length cap,vb,gh,Sh,ck,Sk,tag⟩).setIfInBounds 2 (.slice (some ⟨b,0,none⟩) 0 cap)=aF { p with phase:=1,line:= [],head:=H } ⟨.slice (some ⟨b,0,none⟩) 0 cap,vb,gh,S2,ck,Sk,retag tag (w.setCell ⟨g,2,none⟩ (.slice (some ⟨b,0,none⟩) 0 cap)).heap.size 3⟩:=by simp[aF,HP.out]
    rw[<- e9];exact h9
   have hF:=MF g { p with phase:=1,line:= [],head:=H } _ w2 q3 hLH
   rw[<- HPE.out]at hF;go_wp2_with fail
   refine hRf.mono ?_;rintro e w3 ⟨rfl,rfl⟩;go_wp2_with fail
   refine hF.mono ?_;intro e w4 hq;have hq2:=VT q2 rfl hq;obtain⟨rfl,hq3⟩:=hq2;go_wp2
   go_end0
   exact⟨rfl,hq3⟩
 ·rw[if_neg h0]at hRf
  have hw:wh=false:=by
   cases hw:wh
   ·rfl
   ·exfalso;apply h0;rw[HST.out];exact hLH.whole (by rw[<- HWH.out,hw])
  subst hw;have H0:=Lib.hid h0;clear h0;go_wp2_with fail
  refine hRf.mono ?_;rintro e w3 ⟨rfl,rfl⟩;go_wp2
  go_end0
  have hpe:Bj p H= { p with phase:=4,line:= [],head:=H,status:=H.status } :=by
   rw[Bj,if_pos (by rw[<- HST.out];exact H0.out)]
  exact qU ((q2.ay 0 (.int .i64 4)).ay 1 (.int .i64 st)) (by rw[HE.out,hpe,<- HST.out];simp[aF]) (by rw[HE.out,hpe]) (by rw[HE.out,hpe]) (by rw[HE.out,hpe]) (by rw[HE.out,hpe])
theorem MG (g:Nat) (p:PS) (x:PP) (c:UInt8) (w:World) (q:PK w g (aF p x) p.line p.body p.head p.chunks x) (hi:ji p) (hp:p.phase=1) (hm:ML w) (hh:Hi (pS g x)):
 Calls Tryz.prog 308 #[.pointer (some ⟨g,0,none⟩),.int .u8 (c.toNat:Int)] w (yO w g x (gW p c)):=by
 by_cases hc:c=10
 ·subst hc
  by_cases hl:p.line.getLast? = some 13
  ·rcases oQ p.line with h0| ⟨P,y,h0⟩
   ·rw[h0]at hl;cases hl
   ·obtain rfl:y=13:=by rw[h0]at hl;simpa using hl
    exact Bv g p x P w q hi.ED hi.hd hi.hl hp h0 hm hh
  ·exact Bo g p x w q hi.ED hl
 ·exact Bq g p x c w q (hi.line (by omega)) hi.hl hp hc
theorem YS (p:PS) (h:ji p) (hp:p.phase<= 1):ji { p with phase:=1 } :=by
 obtain⟨e1,e2,e3,e4,e5⟩:=h.early hp;exact⟨show(1:Nat)<= 4 by decide,h.hd,h.hl,fun _=>h.on hp,fun _=>h.line hp,h.ED,fun _=>⟨e1,e2,e3,e4,e5⟩,h.body,fun h9=>absurd h9 (by simp),fun r hr=>(by have hr':p.chunks=some r:=hr;rw[e1]at hr';cases hr'),fun h9=>absurd h9 (by simp),fun _=>e5⟩
def wH (w:World) (g:Nat) (x:PP) (p:PS) (l:Bs) (e:Ending) (w':World):Prop:=
 ∃(k:Nat) (p':PS),e= .returned (.int .i64 (k:Int))/\ 1<= k/\ k<= l.length/\ aB p l=(k+(aB p' (l.drop k)).1,(aB p' (l.drop k)).2)/\ ji p'/\ ∃x',PK w' g (aF p' x') p'.line p'.body p'.head p'.chunks x'/\ Moved (pS g x) (pS g x') w w'
theorem Dw (g:Nat) (p:PS) (x:PP) (A:Option Addr) (n cp B:Nat) (l:Bs) (w:World) (q:PK w g (aF p x) p.line p.body p.head p.chunks x) (hi:ji p) (hp:p.phase<= 1) (hA:Rd w B 1 A n (l.map bv)) (hne:0<n-> ∀a,A=some a-> ¬pS g x a.block) (hn0:0<n) (hm:ML w) (hh:Hi (pS g x)):
 Calls Tryz.prog 285 #[.pointer (some ⟨g,0,none⟩),.slice A n cp] w (wH w g x p l):=by
 have hln:l.length=n:=by simpa using hA.1
 obtain⟨ch,l',rfl⟩: ∃ch l',l=ch::l':=by
  cases l with
  |nil=>simp at hln;omega
  |cons a b=>exact⟨a,b,rfl⟩
 obtain⟨b,o,rfl,hb,hc⟩:=hA.2 hn0;have x0:w.cell? ⟨b,o,none⟩=some (.int .u8 (ch.toNat:Int)):=hc 0 (bv ch) (by simp)
 have hbS:=hne hn0 _ rfl;have q0:=PW.refl q;have hbl:=q.blk;unfold aF at hbl;obtain⟨j0,j1,j2,j3,j4,j5,j6,j7,i0,i1,i2,i3,i4,i5,i6,i7⟩:=Blk.c8 hbl;have q1:=q0.ay 0 (.int .i64 1);have e1:(aF p x).setIfInBounds 0 (.int .i64 1)=aF { p with phase:=1 } x:=by simp[aF]
 rw[e1]at q1;have hm1:ML (w.setCell ⟨g,0,none⟩ (.int .i64 1)):=hm.fr q1.m.fr hh;have hI1:=YS p hi hp;have hC:=MG g { p with phase:=1 } x ch _ q1.k hI1 rfl hm1 hh
 rw[show gW { p with phase:=1 } ch=gW p ch from rfl]at hC
 have hpb:iJ p ch=gW p ch:=by rw[iJ,if_neg (by omega)]
 have HF:=Lib.hid (show aB p (ch::l')=(1+(aB (gW p ch) l').1,(aB (gW p ch) l').2) by rw[nR p ch l' (by omega),hpb,Nat.add_comm])
 have hI2:ji (gW p ch):=Qv p ch hi hp;have hne2:((p.phase:Int) != 2)=true:=by rw[bne_iff_ne];omega
 have hgb: ¬b=g:=fun e=>hbS (.inl e)
 have hgb2: ¬g=b:=fun e=>hgb e.symm
 clear hbl j1 j2 j3 j4 j5 j6 j7 i1 i2 i3 i4 i5 i6 i7 hc hne hbS hpb e1 hI1 hm1 hm hh hi q;go_enter Tryz.func285,Tryz.ntmps285
 go_wp2_with fail
 refine hC.mono ?_;intro e w2 hq;obtain⟨rfl,x2,k2,m2⟩:=VT q1 rfl hq;go_wp2
 go_ret
 exact⟨1,gW p ch,rfl,Nat.le_refl _,by simp,HF.out,hI2,x2,k2,m2⟩
theorem rP {w:World} {g:Nat} {cs cs':Array Value} {L B:Bs} {h:HS} {c:Option CS} {x:PP} (q:PK w g cs L B h c x) (e:cs=cs'):PK w g cs' L B h c x:=e▸q
theorem GN (g:Nat) (p:PS) (x:PP) (A:Option Addr) (n cp B:Nat) (l:Bs) (w:World) (q:PK w g (aF p x) p.line p.body p.head p.chunks x) (hi:ji p) (hp:p.phase=2) (hc:p.chunks=none) (hA:Rd w B 1 A n (l.map bv)) (_hB:B<= w.heap.size) (hn0:0<n) (hn:n<= 1000000) (hcp:n<= cp) (hf:p.fed<= 1000000000):
 Calls Tryz.prog 285 #[.pointer (some ⟨g,0,none⟩),.slice A n cp] w (wH w g x p l):=by
 have hln:l.length=n:=by simpa using hA.1
 have hlf:=hi.len hp hc;have hbd:=hi.body;obtain⟨k,hk⟩: ∃k,k=min p.left n:=⟨_,rfl⟩;have hk1:1<= k:=by omega
 have hkn:k<= n:=by omega
 have hkl:k<= p.left:=by omega
 have hkcp:k<= cp:=by omega
 have hmin:min (p.left:Int) (n:Int)=(k:Int):=by omega
 have htk:(l.take k).length=k:=by rw[List.length_take];omega
 have htk2:(l.take k).length<= 1000000:=by omega
 have HKL:=Lib.hid (show k<= l.length by omega)
 clear hk
 have HF:=Lib.hid (show aB p l=(k+(aB (ku p (l.take k)) (l.drop k)).1,(aB (ku p (l.take k)) (l.drop k)).2) by
  have h9:=EC (l.take k) (l.drop k) p hp hc (by omega) (by omega)
  rw[List.take_append_drop,htk]at h9
  exact h9)
 have hI2:=VL p (l.take k) hi hp hc (by omega)
 have HE:=Lib.hid (show ku p (l.take k)= { p with body:=p.body++l.take k,left:=p.left-k,fed:=p.fed+k,phase:=if p.left=k then 3 else 2 } by rw[ku,htk])
 have hcut:=hA.zI (k:=k) hkn;rw[Nat.mul_one,<- List.map_take]at hcut;obtain⟨vl,vb,gh,Sh,ck,Sk,tag⟩:=x;have ob:=q.ob;have hck:ck=none:=by
  rcases q.kk with⟨h1,-,-⟩| ⟨gk,r,-,h2,-⟩
  ·exact h1
  ·rw[hc]at h2;cases h2
 subst hck;dsimp only at ob;obtain⟨Ab,cb,hvb,-,-,-⟩:=ob.form;subst hvb;have q0:=PW.refl q;have hbl:=q.blk;unfold aF at hbl;obtain⟨j0,j1,j2,j3,j4,j5,j6,j7,i0,i1,i2,i3,i4,i5,i6,i7⟩:=Blk.c8 hbl;rw[hp]at j0;dsimp only[Option.map]at j6;obtain⟨b,o,rfl,hb,-⟩:=hA.2 hn0;have HPh:=Lib.hid hp;have HCh:=Lib.hid hc;clear hbl j1 j2 j3 i1 i2 i3 hi hA q hln hp hc htk hn0;by_cases hlk:p.left=k
 ·have HE2:=Lib.hid (show ku p (l.take k)= { p with body:=p.body++l.take k,left:=p.left-k,fed:=p.fed+k,phase:=3 } by rw[HE.out,if_pos hlk])
  have hlk0:((p.left:Int)- (k:Int)==0)=true:=by rw[beq_iff_eq];omega
  clear hlk;go_enter Tryz.func285,Tryz.ntmps285
  go_wp2_with fail
  go_region_law (refine nG rfl (.tmp 37) (.tmp 40) rfl 0 (.slice Ab p.body.length cb) p.body rfl ob ((Below.refl _ _).drew) _ k cp B rfl (l.take k) hcut (by omega) (Nat.zero_le _) ?_;intro v' w3 ho3 hx3;obtain⟨A3,c3,hv3,-,-,-⟩:=ho3.form;subst hv3;have q2:=q0.Dh hx3 ho3;have VU:=q2.k.blk;unfold aF at VU;obtain⟨a0,a1,a2,a3,a4,a5,a6,a7,b0,b1,b2,b3,b4,b5,b6,b7⟩:=Blk.c8 VU;clear hx3 ho3)
  all_goals go_wp2_with fail
  go_ret
  have q3:=(((q2.ay 5 (.slice A3 (p.body.length+min k l.length) c3)).ay 4 (.int .i64 ((p.left:Int)- (k:Int)))).ay 0 (.int .i64 3)).ay 7 (.int .i64 ((p.fed:Int)+(k:Int)));refine⟨k,ku p (l.take k),rfl,hk1,HKL.out,HF.out,hI2,_,?_,q3.m⟩;have h9:=q3.k;rw[HE2.out];refine rP h9 ?_;simp[aF];omega
 ·have HE2:=Lib.hid (show ku p (l.take k)= { p with body:=p.body++l.take k,left:=p.left-k,fed:=p.fed+k,phase:=2 } by rw[HE.out,if_neg hlk])
  have hlk0:((p.left:Int)- (k:Int)==0)=false:=by rw[Bool.eq_false_iff];intro h0;rw[beq_iff_eq]at h0;omega
  clear hlk;go_enter Tryz.func285,Tryz.ntmps285
  go_wp2_with fail
  go_region_law (refine nG rfl (.tmp 37) (.tmp 40) rfl 0 (.slice Ab p.body.length cb) p.body rfl ob ((Below.refl _ _).drew) _ k cp B rfl (l.take k) hcut (by omega) (Nat.zero_le _) ?_;intro v' w3 ho3 hx3;obtain⟨A3,c3,hv3,-,-,-⟩:=ho3.form;subst hv3;have q2:=q0.Dh hx3 ho3;have VU:=q2.k.blk;unfold aF at VU;obtain⟨a0,a1,a2,a3,a4,a5,a6,a7,b0,b1,b2,b3,b4,b5,b6,b7⟩:=Blk.c8 VU;clear hx3 ho3)
  all_goals go_wp2_with fail
  go_ret
  have q3:=((q2.ay 5 (.slice A3 (p.body.length+min k l.length) c3)).ay 4 (.int .i64 ((p.left:Int)- (k:Int)))).ay 7 (.int .i64 ((p.fed:Int)+(k:Int)));refine⟨k,ku p (l.take k),rfl,hk1,HKL.out,HF.out,hI2,_,?_,q3.m⟩;have h9:=q3.k;rw[HE2.out];refine rP h9 ?_;simp[aF,HPh.out];omega
theorem EF: ∀(l:Bs) (r:CS),(dU r l).1<= l.length
 | [],r=>Nat.le_refl _
 |c::l,r=>by
  cases ho:r.on
  ·rw[rH r _ ho];exact Nat.zero_le _
  ·rw[qG r c l ho]
   have:=EF l (dF r c);simp only[List.length_cons];omega
theorem PW.YT {w0 w w':World} {S:Nat-> Prop} {g:Nat} {cs:Array Value} {L B B':Bs} {h:HS} {c:Option CS} {x:PP} (q:PW w0 S w g cs L B h c x) {v:Value} (ho:OB w' w.heap.size v B') (hb:Below w.heap.size w w'):PW w0 S w' g cs L B' h c { x with vb:=v,tag:=retag x.tag w.heap.size 2 } :=
 q.Dh ⟨(Fr.dB hb).mono fun _ hk=>.inr hk,fun k hk=>.inr (Own.lt ho k hk).1⟩ (Own.vC ho (Nat.zero_le _))
theorem Bz (g:Nat) (p:PS) (x:PP) (r:CS) (A:Option Addr) (n cp B:Nat) (l:Bs) (w:World) (qk:PK w g (aF p x) p.line p.body p.head p.chunks x) (hi:ji p) (hp:p.phase=2) (hc:p.chunks=some r) (hA:Rd w B 1 A n (l.map bv)) (hB:B<= w.heap.size) (hne:0<n-> ∀a,A=some a-> ¬pS g x a.block) (hn0:0<n) (hn:n<= 1000000) (hf:p.fed<= 1000000000) (hm:ML w) (hh:Hi (pS g x)):
 Calls Tryz.prog 285 #[.pointer (some ⟨g,0,none⟩),.slice A n cp] w (wH w g x p l):=by
 have hln:l.length=n:=by simpa using hA.1
 obtain⟨hCI,h3⟩:=hi.chk r hc;obtain⟨hon,hpb,hpl⟩:=h3 hp;have HF:=Lib.hid (yM l p r hp hc hon (by omega))
 have hkl:=EF l r;have hk1:1<=(dU r l).1:=by
  cases l with
  |nil=>simp at hln;omega
  |cons a b=>rw[qG r a b hon];simp
 have hCI2:=Eb l r hCI;obtain⟨vl,vb,gh,Sh,ck,Sk,tag⟩:=x;obtain⟨gk,hck,hK⟩: ∃gk,ck=some gk/\ KR w gk Sk r:=by
  rcases qk.kk with⟨-,h2,-⟩| ⟨gk,r',h1,h2,h3⟩
  ·rw[hc]at h2;cases h2
  ·rw[hc]at h2;injection h2 with h2;subst h2;exact⟨gk,h1,h3⟩
 subst hck;have hC:=UL gk Sk r A n cp B l w hK hCI hA hB (fun h a ha hs=>hne h a ha (.inr (.inr (.inr (.inr hs))))) hn hm (fun k hk=>hh k (.inr (.inr (.inr (.inr hk)))))
 have q0:=PW.refl qk;have hbl:=qk.blk;unfold aF at hbl;obtain⟨j0,j1,j2,j3,j4,j5,j6,j7,i0,i1,i2,i3,i4,i5,i6,i7⟩:=Blk.c8 hbl;rw[hp]at j0;rw[hpl]at j4;dsimp only[Option.map]at j6;have hI2:=MB p (dU r l).2 (dU r l).1 hi hp hCI2 hpb hpl;have HPh:=Lib.hid hp;have YU:=Lib.hid (hi.st (by omega))
 have hmin:min (0:Int) (n:Int)=0:=by omega
 generalize dU r l=q at*;have HE:=Lib.hid (show bU p q.2 q.1= { p with chunks:=some q.2,fed:=p.fed+q.1,body:=if q.2.whole then q.2.body else p.body,phase:=if q.2.status≠0 then 4 else if q.2.whole then 3 else 2,status:=if q.2.status≠0 then q.2.status else p.status } from rfl)
 unfold Je at hC;obtain⟨st,hst⟩: ∃st,st=q.2.status:=⟨_,rfl⟩;obtain⟨wh,hwh⟩: ∃wh,wh=q.2.whole:=⟨_,rfl⟩;rw[<- hst,<- hwh]at hC;have HST:=Lib.hid hst;have HW:=Lib.hid hwh;clear hbl j1 j2 j3 j5 i0 i1 i2 i3 i4 i5 i6 hst hwh hi hp hc h3 hpb hpl hCI hon hK hA hne qk hm hh;cases wh
 ·by_cases hs0:st=0
  ·subst hs0
   have HE2:=Lib.hid (show bU p q.2 q.1= { p with chunks:=some q.2,fed:=p.fed+q.1,body:=p.body,phase:=2 } by rw[HE.out,<- HW.out,<- HST.out];simp)
   go_enter Tryz.func285,Tryz.ntmps285
   go_wp2_with fail
   refine hC.mono ?_;rintro e w1 ⟨rfl,S1,k1,m1⟩;have q1:=q0.YR rfl k1 m1;have hu1:=q1.k.blk;unfold aF at hu1;obtain⟨a0,a1,a2,a3,a4,a5,a6,a7,b0,b1,b2,b3,b4,b5,b6,b7⟩:=Blk.c8 hu1;clear hu1;have hRf:=fC g _ 0 _ q1.k.blk ⟨_,rfl⟩ ⟨_,rfl⟩;rw[if_pos rfl]at hRf;go_wp2_with fail
   refine hRf.mono ?_;rintro e w3 ⟨rfl,rfl⟩;go_wp2
   go_ret
   have q9:=q1.ay 7 (.int .i64 ((p.fed:Int)+(q.1:Int)));refine⟨q.1,bU p q.2 q.1,rfl,hk1,hkl,HF.out,hI2,_,?_,q9.m⟩;have h9:=q9.k;rw[HE2.out];refine rP h9 ?_;simp[aF,HPh.out,YU.out]
  ·skip
   have HE2:=Lib.hid (show bU p q.2 q.1= { p with chunks:=some q.2,fed:=p.fed+q.1,body:=p.body,phase:=4,status:=st } by rw[HE.out,<- HW.out,<- HST.out];simp[hs0])
   go_enter Tryz.func285,Tryz.ntmps285
   go_wp2_with fail
   refine hC.mono ?_;rintro e w1 ⟨rfl,S1,k1,m1⟩;have q1:=q0.YR rfl k1 m1;have hu1:=q1.k.blk;unfold aF at hu1;obtain⟨a0,a1,a2,a3,a4,a5,a6,a7,b0,b1,b2,b3,b4,b5,b6,b7⟩:=Blk.c8 hu1;clear hu1;have hRf:=fC g _ st _ q1.k.blk ⟨_,rfl⟩ ⟨_,rfl⟩;rw[if_neg hs0]at hRf;go_wp2_with fail
   refine hRf.mono ?_;rintro e w3 ⟨rfl,rfl⟩;go_wp2
   go_ret
   have q9:=((q1.ay 0 (.int .i64 4)).ay 1 (.int .i64 st)).ay 7 (.int .i64 ((p.fed:Int)+(q.1:Int)));refine⟨q.1,bU p q.2 q.1,rfl,hk1,hkl,HF.out,hI2,_,?_,q9.m⟩;have h9:=q9.k;rw[HE2.out];refine rP h9 ?_;simp[aF,HPh.out,YU.out]
 ·by_cases hs0:st=0
  ·subst hs0
   have HE2:=Lib.hid (show bU p q.2 q.1= { p with chunks:=some q.2,fed:=p.fed+q.1,body:=q.2.body,phase:=3 } by rw[HE.out,<- HW.out,<- HST.out];simp)
   go_enter Tryz.func285,Tryz.ntmps285
   go_wp2_with fail
   refine hC.mono ?_;rintro e w1 ⟨rfl,S1,k1,m1⟩;have q1:=q0.YR rfl k1 m1;have hu1:=q1.k.blk;unfold aF at hu1;obtain⟨a0,a1,a2,a3,a4,a5,a6,a7,b0,b1,b2,b3,b4,b5,b6,b7⟩:=Blk.c8 hu1;go_wp2_with fail
   refine(Jf gk S1 q.2 w1 k1 hCI2).mono ?_;rintro e w2 ⟨v2,rfl,ho2,M2⟩;obtain⟨A2,c2,hv2,-,-,-⟩:=ho2.form;subst hv2;have q2:=((q1.YT ho2 M2).ay 5 (.slice A2 q.2.body.length c2)).ay 0 (.int .i64 3);have hu2:=(q1.YT ho2 M2).k.blk;unfold aF at hu2;obtain⟨d0,d1,d2,d3,d4,d5,d6,d7,f0,f1,f2,f3,f4,f5,f6,f7⟩:=Blk.c8 hu2;clear hu1 hu2 a0 a1 a2 a3 a4 a5 a6 a7 b0 b1 b2 b3 b4 b5 b6 b7 ho2 M2;have hRf:=fC g _ 0 _ q2.k.blk ⟨_,rfl⟩ ⟨_,rfl⟩;rw[if_pos rfl]at hRf;go_wp2_with fail
   refine hRf.mono ?_;rintro e w3 ⟨rfl,rfl⟩;go_wp2
   go_ret
   have q9:=q2.ay 7 (.int .i64 ((p.fed:Int)+(q.1:Int)));refine⟨q.1,bU p q.2 q.1,rfl,hk1,hkl,HF.out,hI2,_,?_,q9.m⟩;have h9:=q9.k;rw[HE2.out];refine rP h9 ?_;simp[aF,HPh.out,YU.out]
  ·skip
   have HE2:=Lib.hid (show bU p q.2 q.1= { p with chunks:=some q.2,fed:=p.fed+q.1,body:=q.2.body,phase:=4,status:=st } by rw[HE.out,<- HW.out,<- HST.out];simp[hs0])
   go_enter Tryz.func285,Tryz.ntmps285
   go_wp2_with fail
   refine hC.mono ?_;rintro e w1 ⟨rfl,S1,k1,m1⟩;have q1:=q0.YR rfl k1 m1;have hu1:=q1.k.blk;unfold aF at hu1;obtain⟨a0,a1,a2,a3,a4,a5,a6,a7,b0,b1,b2,b3,b4,b5,b6,b7⟩:=Blk.c8 hu1;go_wp2_with fail
   refine(Jf gk S1 q.2 w1 k1 hCI2).mono ?_;rintro e w2 ⟨v2,rfl,ho2,M2⟩;obtain⟨A2,c2,hv2,-,-,-⟩:=ho2.form;subst hv2;have q2:=((q1.YT ho2 M2).ay 5 (.slice A2 q.2.body.length c2)).ay 0 (.int .i64 3);have hu2:=(q1.YT ho2 M2).k.blk;unfold aF at hu2;obtain⟨d0,d1,d2,d3,d4,d5,d6,d7,f0,f1,f2,f3,f4,f5,f6,f7⟩:=Blk.c8 hu2;clear hu1 hu2 a0 a1 a2 a3 a4 a5 a6 a7 b0 b1 b2 b3 b4 b5 b6 b7 ho2 M2;have hRf:=fC g _ st _ q2.k.blk ⟨_,rfl⟩ ⟨_,rfl⟩;rw[if_neg hs0]at hRf;go_wp2_with fail
   refine hRf.mono ?_;rintro e w3 ⟨rfl,rfl⟩;go_wp2
   go_ret
   have q9:=((q2.ay 0 (.int .i64 4)).ay 1 (.int .i64 st)).ay 7 (.int .i64 ((p.fed:Int)+(q.1:Int)));refine⟨q.1,bU p q.2 q.1,rfl,hk1,hkl,HF.out,hI2,_,?_,q9.m⟩;have h9:=q9.k;rw[HE2.out];refine rP h9 ?_;simp[aF,HPh.out,YU.out]
theorem VW (g:Nat) (p:PS) (x:PP) (A:Option Addr) (n cp B:Nat) (l:Bs) (w:World) (q:PK w g (aF p x) p.line p.body p.head p.chunks x) (hi:ji p) (hp:p.phase<= 2) (hA:Rd w B 1 A n (l.map bv)) (hB:B<= w.heap.size) (hne:0<n-> ∀a,A=some a-> ¬pS g x a.block) (hn0:0<n) (hn:n<= 1000000) (hcp:n<= cp) (hf:p.fed<= 1000000000) (hm:ML w) (hh:Hi (pS g x)):
 Calls Tryz.prog 285 #[.pointer (some ⟨g,0,none⟩),.slice A n cp] w (wH w g x p l):=by
 by_cases h2:p.phase=2
 ·cases hc:p.chunks with
  |none=>exact GN g p x A n cp B l w q hi h2 hc hA hB hn0 hn hcp hf
  |some r=>exact Bz g p x r A n cp B l w q hi h2 hc hA hB hne hn0 hn hf hm hh
 ·exact Dw g p x A n cp B l w q hi (by omega) hA hne hn0 hm hh
theorem Qw (g:Nat) (S:Nat-> Prop) (p:PS) (w:World) (q:PR w g S p):
 Calls Tryz.prog 198 #[.pointer (some ⟨g,0,none⟩)] w fun e w'=>e= .returned (.int .i64 (p.phase:Int))/\ w=w':=by
 obtain⟨x,rfl,k⟩:=q;have j0:w.cell? ⟨g,0,none⟩=some (.int .i64 (p.phase:Int)):=k.blk.cell 0;clear k;go_enter Tryz.func198,Tryz.ntmps198
 go_wp2
 go_ret
 exact⟨rfl,rfl⟩
end Go.Proofs.YtdmondfpepbniaaGreatDoor
