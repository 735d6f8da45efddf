/- Part 24 of the proof: VlC Vt VtA VtB. -/
import Derived.Test.YtdmondfpepbniaaGreatDoorQ22
namespace Go.Proofs.YtdmondfpepbniaaGreatDoor
open Go.RowKit
set_option maxRecDepth 100000
set_option maxHeartbeats 4000000
set_option linter.all false
theorem dW (w:World) (t:Nat-> Nat): ∃τ,1000000<= τ/\ ∀k,k<w.heap.size-> t k<τ:=by
 have: ∀n:Nat,∃τ,1000000<= τ/\ ∀k,k<n-> t k<τ:=by
  intro n
  induction n with
  |zero=>exact⟨1000000,Nat.le_refl _,fun k hk=>absurd hk (Nat.not_lt_zero _)⟩
  |succ n ih=>
   obtain⟨τ,h1,h2⟩:=ih;refine⟨max τ (t n+1),by omega,fun k hk=> ?_⟩
   rcases Nat.lt_or_ge k n with h|h
   ·have:=h2 k h;omega
   ·obtain rfl:k=n:=by omega
    omega
 exact this _
theorem Stp.drop {S S':Nat-> Prop} {w w':World} {t t':Nat-> Nat} (h:Stp S w t w' t') (hS: ∀k,k<w.heap.size-> S (t k)-> S' (t k)):Stp S' w t w' t':=
 ⟨⟨h.fr.os,h.fr.tape,h.fr.output,h.fr.size,fun k hk hn=>h.fr.block k hk fun hs=>hn (hS k hk hs)⟩,h.old⟩
section
variable {α β:Type} [DecidableEq α] {kV:α-> Value} {Ok:α-> Prop} {vV:β-> Value} {w:World} {t:Nat-> Nat} {τ b:Nat} {l l':List (α×β)}
omit [DecidableEq α] in
theorem MT.vals (h:MT w t τ b kV Ok vV l) (e:l'.map (fun p=>(p.1,vV p.2))=l.map (fun p=>(p.1,vV p.2))):MT w t τ b kV Ok vV l':=by
 have e1:l'.map (·.1)=l.map (·.1):=by simpa [List.map_map,Function.comp_def] using congrArg (List.map (·.1)) e
 have e2:l'.map (fun p=>(kV p.1,vV p.2))=l.map (fun p=>(kV p.1,vV p.2)):=by simpa [List.map_map,Function.comp_def] using congrArg (List.map fun q:α×Value=>(kV q.1,q.2)) e
 obtain⟨h1,h2,h3,es,cl,h4,h5,h6,h7⟩:=h;refine⟨h1,fun p hp=> ?_,by rw[e1];exact h3,es,cl,h4,by rw[h5,e2],h6,h7⟩
 have:p.1∈l.map (·.1):=by rw[<- e1];exact List.mem_map_of_mem (f:=(·.1)) hp
 obtain⟨q,hq,eq⟩:=List.mem_map.1 this;rw[<- eq];exact h2 q hq
theorem rU {γ:Type} (f:β-> γ) (l:List (α×β)) (a:α) (b b0:β) (hn:(l.map (·.1)).Nodup) (h:aT l a=some b0) (e:f b=f b0):(dL l a b).map (fun p=>(p.1,f p.2))=l.map (fun p=>(p.1,f p.2)):=by
 rw[dL,List.map_map];refine List.map_congr_left fun p hp=> ?_
 simp only[Function.comp];split
 ·rename_i hpa
  obtain⟨j,hj⟩:=List.mem_iff_getElem?.1 hp;have h1:=zf l j p hn hj;rw[hpa,h]at h1;injection h1 with h1
  rw[<- hpa,e,h1]
 ·rfl
theorem Y1 {l:List (α×β)} {a:α} {b:β} (h:aT l a=some b):jD l a=true:=by
 rw[jD,List.any_eq_true];exact⟨_,cZ h,by simp⟩
theorem rV {l:List (α×β)} {a:α} {b b0:β} (h:aT l a=some b0):bK l a b=dL l a b:=by rw[bK,Y1 h,if_pos rfl]
end
theorem addr_ne {α β:Type} {L:List (α×(Nat×β))} (hd:(L.map (·.2.1)).Nodup) {y z:α×(Nat×β)} (hy:y∈L) (hz:z∈L) (hne:y.1≠z.1):y.2.1≠z.2.1:=by
 intro e;obtain⟨i,hi⟩:=List.mem_iff_getElem?.1 hy;obtain⟨j,hj⟩:=List.mem_iff_getElem?.1 hz;have hil:i< (L.map (·.2.1)).length:=by have:=(List.getElem?_eq_some_iff.1 hi).1;simpa using this
 have:i=j:=(List.getElem?_inj hil hd).1 (by rw[List.getElem?_map,List.getElem?_map,hi,hj];simp[e])
 subst this;rw[hi]at hj;injection hj with hj
 exact hne (by rw[hj])
section
variable {α β:Type} [DecidableEq α]
theorem BM {l:List (α×β)} {a:α} {b:β} {p:α×β} (h:p∈dL l a b):p=(a,b)\/ (p∈l/\ p.1≠a):=by
 rw[dL,List.mem_map]at h;obtain⟨q,hq,rfl⟩:=h;split
 ·exact .inl rfl
 ·rename_i hne;exact .inr ⟨hq,hne⟩
theorem Hg {γ:Type} (f:α×β-> γ) (l:List (α×β)) (a:α) (h:(l.map f).Nodup):((jO l a).map f).Nodup:=List.Nodup.sublist ((List.filter_sublist).map _) h
theorem EK {L:List (α×(Nat×β))} {a:α} {g:Nat} {x x':β} (hn:(L.map (·.1)).Nodup) (h:aT L a=some (g,x)):(dL L a (g,x')).map (·.2.1)=L.map (·.2.1):=by
 have:=rU (fun y:Nat×β=>y.1) L a (g,x') (g,x) hn h rfl
 simpa [List.map_map,Function.comp_def] using congrArg (List.map (·.2)) this
end
theorem nX.look {w:World} {t:Nat-> Nat} {m gn g:Nat} {p:fK} {gs b:Nat} {L:WL} (h:nX w t m gn g p gs b L) (a:Hn) (ha:iH a) (y:Nat×WS) (hL:aT L a=some y) (V:World) (hV:V.heap[b]? = w.heap[b]?):
 (Instr.lookup 122 (.map (some b)) (.agg #[.int .i64 (a.1:Int),.int .i64 (a.2:Int)]) false).run Tryz.prog V= .ok (.pointer (some ⟨y.1,0,none⟩)) V:=by
 have h2:MT V t (m+6) b hnV iH (fun y:Nat×WS=>pV y.1) L:=by
  obtain⟨h1,h2,h3,es,cl,h4,h5⟩:=h.a;exact⟨h1,h2,h3,es,cl,hV.trans h4,h5⟩
 have:=h2.look uQ Tryz.underlying122 (z:=.pointer none) (by rfl) a ha false
 rw[hL]at this;exact this
theorem BT.same {w w':World} {t t':Nat-> Nat} {τ g:Nat} {T:TypeId} {cs:Array Value} (h:BT w t τ g T cs) (e:w'.heap[g]? = w.heap[g]?) (et:t' g=t g):BT w' t' τ g T cs:=⟨et.trans h.m,e.trans h.b⟩
theorem nX.ws {w w':World} {t t':Nat-> Nat} {m gn g:Nat} {p:fK} {gs b gx:Nat} {L:WL} {a:Hn} {x x':WS} (h:nX w t m gn g p gs b L) (hL:aT L a=some (gx,x)) (st:Stp (fun y=>y=m+7) w t w' t') (hX:BT w' t' (m+7) gx 176 (wsC x'))
 (ho: ∀k,k≠gx-> k<w.heap.size-> w'.heap[k]? = w.heap[k]?):nX w' t' m gn g { p with all:=bK p.all a x' } gs b (dL L a (gx,x')):=by
 have hn:=h.a.2.2.1;have hm:=cZ hL;refine⟨h.b.keep st (by omega),h.s.keep st (by omega) (by omega),(h.a.keep st (by omega)).vals (rU (fun y:Nat×WS=>pV y.1) L a (gx,x') (gx,x) hn hL rfl),?_,?_,fun y hy=> ?_⟩
 ·rw[<- rV hL,<- h.l]
  exact(nU (fun y:Nat×WS=>y.2) L a (gx,x')).symm
 ·rw[EK hn hL];exact h.d
 ·rcases BM hy with rfl| ⟨h1,h2⟩
  ·exact hX
  ·have h3:=h.x y h1
   exact h3.same (ho _ (addr_ne h.d h1 hm h2) h3.lt) (st.old _ h3.lt)
theorem lX (w:World) (t:Nat-> Nat) (m gn g:Nat) (p:fK) (a:Hn) (rd wr:Bool) (x:WS) (h:pO w t m gn g p) (ha:iH a) (hx:aT p.all a=some x):
 Calls Tryz.prog 47 #[pV g,hnV a,.bool rd,.bool wr] w fun e w'=>e= .returned (.int .i64 0)/\ ∃t',pO w' t' m gn g (iZ p a rd wr)/\ Stp (Mk m 10) w t w' t':=by
 obtain⟨gs,b,L,h⟩:=h;have hg:=h.get a;rw[hx]at hg;obtain⟨⟨gx,x'⟩,hL,rfl⟩: ∃y,aT L a=some y/\ y.2=x:=by
  cases hy:aT L a with
  |none=>rw[hy]at hg;cases hg
  |some y=>rw[hy]at hg;injection hg with hg;exact⟨y,rfl,hg.symm⟩
 clear hg;have hW:=Lib.hid (show iZ p a rd wr= { p with all:=bK p.all a { x' with rd:=rd,wr:=wr } } by rw[iZ,hx])
 go_enter Tryz.func47,Tryz.ntmps47
 go_upto_region 3 with(fail)
 obtain⟨V,hV⟩: ∃V,V=w.alloc (.cells #[.int .i64 a.1,.int .i64 a.2] 72):=⟨_,rfl⟩;rw[<- hV];have s0:Stp (fun _=>False) w t V (upT t w (m+8)):=by rw[hV];exact Stp.alloc w t _ _ _
 have BV:BT V (upT t w (m+8)) (m+8) w.heap.size 72 #[.int .i64 a.1,.int .i64 a.2]:=by rw[hV];exact BT.new' _ _ _ _ rfl _ _
 clear hV;have hB:=h.keep s0 fun _ _ h=>h
 generalize upT t w (m+8)=t1 at*;obtain⟨j0,j1,j2,-,-,-⟩:=hB.b.b.c3;obtain⟨k0,k1,-,-⟩:=BV.b.c2;have hk:=hB.look a ha _ hL;have hk0:=hk V.drew rfl;clear hk;go_region
 have hX:=(hB.x (a,(gx,x')) (cZ hL)).drew;obtain⟨W,hW2⟩: ∃W,W=V.drew:=⟨_,rfl⟩;rw[<- hW2]at hX⊢;have s1:Stp (fun _=>False) w t W t1:=by rw[hW2];exact s0.drew
 have hB1:nX W t1 m gn g p gs b L:=hB.keep (Stp.below (w:=V) (w':=W) (by rw[hW2];exact(Below.refl _ _).drew) (fun _=>False) t1) fun _ _ h=>h
 clear hW2 j0 j1 j2 k0 k1 hk0 hB BV s0;obtain⟨x0,x1,x2,x3,x4,x5,f0,f1,f2,f3,f4,f5⟩:=hX.b.c6;obtain⟨hX1,z1⟩:=hX.aH 1 (.bool rd);obtain⟨hX2,z2⟩:=hX1.aH 2 (.bool wr);obtain⟨hX3,z3⟩:=hX2.aH 4 (.int .i64 0);obtain⟨hX4,z4⟩:=hX3.aH 5 (.int .i64 0);have sX:=((z1.trans z2 fun _ h=>h).trans z3 fun _ h=>h).trans z4 fun _ h=>h
 go_wp2_with fail
 go_ret
 have ho: ∀k,k≠gx-> ∀(i:Nat) (u:Value) (U:World),(U.setCell ⟨gx,i,none⟩ u).heap[k]? = U.heap[k]? := fun k hk i u U=>by simp[World.setCell,Array.getElem?_modify,Ne.symm hk]
 have hE:=hB1.ws (x':= { x' with rd:=rd,wr:=wr }) hL sX (hX4.to (by simp[wsC])) fun k hk _=>by rw[ho k hk,ho k hk,ho k hk,ho k hk]
 rw[hW.out];exact⟨rfl,t1,⟨gs,b,_,hE⟩,(s1.mono (S':=Mk m 10) fun _ h=>h.elim).trans sX fun y (h:y=m+7)=>(show Mk m 10 y by omega)⟩
def sOk (s:ByteArray):Prop:=s.size<= 1000000
theorem zu:MK Tryz.prog 9 Value.string sOk:=
 ⟨Go.Maps.string_keyed Tryz.underlying9,fun a ha=>⟨.string a.data.toList,by
   have h1:a.size<= maxLen:=by have:a.size<= 1000000:=ha;unfold maxLen;omega
   simp[keyOf,Tryz.underlying9,mapKey,h1]⟩,fun a b _ _ h=>by injection h⟩
theorem aaF (s:ByteArray) (w:World) (hs:s.size<= 1000000) (ht:(allT s.data.toList&&decide (0<s.data.toList.length))=true):
 Calls Tryz.prog 175 #[.string s] w fun e w'=>e= .returned (.bool false)/\ w=w':=by
 have hI:=gG s w (by unfold maxLen;omega)
 rw[ht]at hI;go_enter Tryz.func175,Tryz.ntmps175
 go_wp2_with fail
 refine hI.mono ?_;rintro e w1 ⟨rfl,rfl⟩;go_wp2
 go_ret
 exact⟨rfl,rfl⟩
theorem Ws (s:ByteArray) (w:World) (A:Option Addr) (c:Nat) (h2: ∃x o,A=some ⟨x,o,none⟩/\ w.cell? ⟨x,o,none⟩=some (.string s)) (hs:s.size<= 1000000) (ht:(allT s.data.toList&&decide (0<s.data.toList.length))=true):
 Calls Tryz.prog 216 #[.slice A 1 c,.func (.func 175) #[] #[]] w fun e w'=>e= .returned (.int .i64 (-1))/\ w=w':=by
 have hT:=fun w=>aaF s w hs ht
 obtain⟨y,o,rfl,hy⟩:=h2;have hc: ∀(args:Array Value) (w:World),(callFunc 175 args).run Tryz.prog w= .ok (.enter 175 args) w:=fun _ _=>by kernel_rfl
 go_enter Tryz.func216,Tryz.ntmps216
 go_wp2_with fail
 go_loopw [8] (fun z wr=>w=wr/\ (z= .int .i64 0\/ z= .int .i64 1)) (fun z _=>1- (intOf z).toNat)
 case atStart=>exact⟨rfl,.inl rfl⟩
 case round=>
  obtain⟨rfl,rfl|rfl⟩:=hrel
  ·go_wp2_with fail
   refine(hT _).mono ?_;rintro e w1 ⟨rfl,rfl⟩;go_wp2_with fail
   go_roundw
   case rel=>exact⟨trivial,.inr (by go_num)⟩
   case measure=>simp[intOf]
  ·go_wp2_with fail
   go_ret
   exact⟨rfl,rfl⟩
theorem JA (s:ByteArray) (w:World) (A:Option Addr) (c:Nat) (h2: ∃x o,A=some ⟨x,o,none⟩/\ w.cell? ⟨x,o,none⟩=some (.string s)) (hs:s.size<= 1000000) (ht:(allT s.data.toList&&decide (0<s.data.toList.length))=true):
 Calls Tryz.prog 174 #[.slice A 1 c,.func (.func 175) #[] #[]] w fun e w'=>e= .returned (.bool false)/\ w=w':=by
 have hI:=Ws s w A c h2 hs ht;go_enter Tryz.func174,Tryz.ntmps174
 go_wp2_with fail
 refine hI.mono ?_;rintro e w1 ⟨rfl,rfl⟩;go_wp2
 go_ret
 exact⟨rfl,rfl⟩
structure RtE where
 v:Value
 mv:Value
 id:Nat
 me:ByteArray
abbrev RtL:=List (ByteArray×RtE)
structure RtB (w:World) (t:Nat-> Nat) (m g:Nat) (ba bu:Nat) (L:RtL):Prop where
 b:BT w t m g 253 #[.map (some ba),.map (some bu),nV L.length]
 a:MT w t (m+1) ba Value.string sOk (fun y:RtE=>y.v) L
 x: ∀y∈L,RT w t (m+2) 258 2 y.2.v 1 [nV y.2.id,y.2.mv]/\ RT w t (m+3) 9 1 y.2.mv 1 [.string y.2.me]
def RtK (w:World) (t:Nat-> Nat) (m g:Nat) (l:List (ByteArray×(Nat×ByteArray))):Prop:= ∃ba bu L,RtB w t m g ba bu L/\ L.map (fun y=>(y.1,(y.2.id,y.2.me)))=l
theorem RtB.keep {S:Nat-> Prop} {w w':World} {t t':Nat-> Nat} {m g ba bu:Nat} {L:RtL} (h:RtB w t m g ba bu L) (st:Stp S w t w' t') (h0: ∀y,Mk m 5 y-> ¬S y):RtB w' t' m g ba bu L:=
 ⟨h.b.keep st (h0 _ (by omega)),h.a.keep st (h0 _ (by omega)),fun y hy=>⟨(h.x y hy).1.keep st (h0 _ (by omega)),(h.x y hy).2.keep st (h0 _ (by omega))⟩⟩
theorem RtK.keep {S:Nat-> Prop} {w w':World} {t t':Nat-> Nat} {m g:Nat} {l:List (ByteArray×(Nat×ByteArray))} (h:RtK w t m g l) (st:Stp S w t w' t') (h0: ∀y,Mk m 5 y-> ¬S y):RtK w' t' m g l:=by
 obtain⟨ba,bu,L,a,e⟩:=h;exact⟨ba,bu,L,a.keep st h0,e⟩
theorem Y2 (w:World) (t:Nat-> Nat) (m:Nat):
 Calls Tryz.prog 111 #[] w fun e w'=> ∃g,e= .returned (pV g)/\ ∃t',RtK w' t' m g []/\ Stp (fun _=>False) w t w' t':=by
 have hmk: ∀w:World,(Instr.makeMap 251 none).run Tryz.prog w= .ok (.map (some w.heap.size)) (w.alloc (.map #[] 0)):=fun _=>rfl
 go_enter Tryz.func111,Tryz.ntmps111
 go_wp2_with fail
 go_ret
 have s1:=Stp.alloc w t (fun _=>False) (.map #[] 0) (m+1)
 have hA:=MT.new w t (m+1) Value.string sOk (fun y:RtE=>y.v)
 have s2:=Stp.alloc (w.alloc (.map #[] 0)) (upT t w (m+1)) (fun _=>False) (.map #[] 0) (m+4)
 obtain⟨V,hV⟩: ∃V,V=(w.alloc (.map #[] 0)).alloc (.map #[] 0):=⟨_,rfl⟩;have hVs:w.heap.size+1+1=V.heap.size:=by rw[hV];simp
 have hA2:=hA.keep s2 id;rw[<- hV]at s2 hA2⊢;generalize upT (upT t w (m+1)) (w.alloc (.map #[] 0)) (m+4)=t2 at*;have s3:=Stp.alloc V t2 (fun _=>False) (.cells #[.map (some w.heap.size),.map (some (w.heap.size+1)),.int .i64 0] 253) m
 have hb:=BT.new' V t2 m (w.heap.size+1+1) hVs 253 #[.map (some w.heap.size),.map (some (w.heap.size+1)),.int .i64 0];exact⟨_,rfl,_,⟨w.heap.size,w.heap.size+1,[],⟨hb,hA2.keep s3 id,fun y hy=>by cases hy⟩,rfl⟩,(s1.trans s2 fun _ h=>h).trans s3 fun _ h=>h⟩
theorem BN:(Tryz.prog.info? 258).map (fun i=>(i.zero,i.size,i.bytes))=some (some (.agg #[.int .i64 0,.slice none 0 0]),2,32):=by kernel_rfl
theorem Wu {l:List (ByteArray×(Nat×ByteArray))} {L:RtL} (e:L.map (fun y=>(y.1,(y.2.id,y.2.me)))=l) (a:ByteArray):aT l a=(aT L a).map fun y=>(y.id,y.me):=by
 rw[<- e];exact nT (fun y:RtE=>(y.id,y.me)) L a
theorem RT.fresh {w w':World} {t t':Nat-> Nat} {τ:Nat} {e:TypeId} {size n:Nat} {v:Value} {xs:List Value} (h:RT w' t' τ e size v n xs) (st:Stp (fun x=>x=τ) w t w' t') (hfr: ∀k,k<w.heap.size-> t k<τ) (τ':Nat):
 RT w' (upT t w τ') τ' e size v n xs/\ Stp (fun _=>False) w t w' (upT t w τ'):=by
 refine⟨⟨h.1,h.2.imp id ?_⟩,⟨⟨st.fr.os,st.fr.tape,st.fr.output,st.fr.size,fun k hk _=>st.fr.block k hk fun e=>by have:=hfr k hk;have e:t k=τ:=e;omega⟩,fun k hk=>iq hk⟩⟩
 rintro⟨g,off,cap,cur,fr,rfl,hm,r⟩;refine⟨g,off,cap,cur,fr,rfl,iO ?_,r⟩;rcases Nat.lt_or_ge g w.heap.size with h1|h1
 ·have h2:=st.old g h1
  have h3:=hfr g h1;omega
 ·exact h1
theorem zy (w:World) (t:Nat-> Nat) (m g:Nat) (l:List (ByteArray×(Nat×ByteArray))) (p:ByteArray) (id':Nat) (me:ByteArray) (h:RtK w t m g l) (hml:ML w) (hm:m+5<= 1000000)
 (hp:p.size<= 200) (hsuf:Lib.hasSuffix p.data.toList [47,42]=false) (hcl:Iz (oz p.data.toList)= .tuple #[.string p,.bool true]) (hid:id'<= 1000) (hme:me.size<= 1000) (htok:(allT me.data.toList&&decide (0<me.data.toList.length))=true)
 (hno:aT l p=none) (hlen:l.length<60) (A:Option Addr) (c:Nat) (h2: ∃y o,A=some ⟨y,o,none⟩/\ y<w.heap.size/\ w.cell? ⟨y,o,none⟩=some (.string me)):
 Calls Tryz.prog 112 #[pV g,.string p,nV id',.slice A 1 c] w fun e w'=>e= .returned (.int .i64 0)/\ ∃t',RtK w' t' m g (l++ [(p,(id',me))])/\ Stp (Mk m 5) w t w' t':=by
 obtain⟨ba,bu,L,h,el⟩:=h;obtain⟨y,o,rfl,hy,hcell⟩:=h2;have hL:aT L p=none:=by
  have:=Wu el p;rw[hno]at this;cases hx:aT L p with
  |none=>rfl
  |some x=>rw[hx]at this;cases this
 have hLl:L.length=l.length:=by rw[<- el];simp
 have hCut:=(Tryz.strings_CutSuffix p ⟨#[47,42]⟩ w (by omega)).mono fun e w' h=>(⟨h.1,h.2.symm⟩:_/\ w=w')
 rw[show(⟨#[47,42]⟩:ByteArray).data.toList= [47,42]from rfl,hsuf]at hCut
 have hCl:=xH p w (by omega) hml
 rw[hcl]at hCl;have hps: ¬(200:Int)< (p.size:Int):=by omega
 have hid0: ¬(id':Int)<0:=by omega
 obtain⟨j0,j1,j2,z0,z1,z2⟩:=h.b.b.c3;go_enter Tryz.func112,Tryz.ntmps112
 go_wp2_with fail
 refine hCut.mono ?_;rintro e w1 ⟨rfl,rfl⟩;go_wp2_with fail
 refine hCl.mono ?_;rintro e w1 ⟨rfl,L1⟩;have s1:Stp (fun _=>False) w t w1 t:=Stp.below L1 _ _
 have hB:=h.keep s1 fun _ _ h=>h
 have hcell1:w1.cell? ⟨y,o,none⟩=some (.string me):=(L1.cell (p:=⟨y,o,none⟩) hy).trans hcell;have hy1:y<w1.heap.size:=Nat.lt_of_lt_of_le hy L1.size;have hCo:=JA me w1 (some ⟨y,o,none⟩) c ⟨y,o,rfl,hcell1⟩ (by omega) htok
 clear h hCut hCl j0 j1 j2 z0 z1 z2 hcell hy L1;go_wp2_with fail
 refine hCo.mono ?_;rintro e w2 ⟨rfl,rfl⟩;obtain⟨j0,j1,j2,z0,z1,z2⟩:=hB.b.b.c3;have hl64: ¬(64:Int)<=(L.length:Int):=by omega
 have hl65:(L.length:Int)<64:=by omega
 clear hLl;have hlook: ∀(V:World) (tV:Nat-> Nat),MT V tV (m+1) ba Value.string sOk (fun y:RtE=>y.v) L->(Instr.lookup 251 (.map (some ba)) (.string p) false).run Tryz.prog V= .ok (.slice none 0 0) V:=fun V tV h2=>by
  have:=h2.look zu Tryz.underlying251 (z:=.slice none 0 0) (by rfl) p (show p.size<= 1000000 by omega) false
  rw[hL]at this;exact this
 have hk0:=hlook w1 t hB.a;go_wp2_with fail
 go_loopw [70] (fun z wr=>z= .int .i64 0/\ w1=wr) (fun _ _=>0)
 case atStart=>exact⟨rfl,rfl⟩
 case round=>
  obtain⟨rfl,rfl⟩:=hrel;have hk1:=hlook w1.drew t (show MT w1.drew t (m+1) ba Value.string sOk (fun y:RtE=>y.v) L from hB.a)
  have hCn:=Tryz.slices_Clone_string y o 1 c [me] w1.drew (by simp) (by omega) (fun j hj=>by
   obtain rfl:j=0:=by simp at hj;exact hj
   exact hcell1)
  have hpk:sOk p:=show p.size<= 1000000 by omega
  clear hk0 hCo;go_upto_region 18 with(fail)
  go_region_law (first
   | (go_simp;go_at_call 179;refine hCn.mono ?_;rintro e w5 ⟨v5,rfl,ho5,-,L5⟩;have hr5:=RT.Ik (Own.of ho5) t (m+3);obtain⟨A5,c5,rfl,-,-,-,-⟩:=hr5.form;have s5:Stp (fun _=>False) w1.drew t w5 (upT t w1.drew (m+3)):=Stp.dB L5 _ _;have hB5:=(hB.keep (Stp.refl (fun _=>False) w1 t).drew fun _ _ h=>h).keep s5 fun _ _ h=>h;have hk5:=hlook w5 _ hB5.a;have hk6:=hlook (w5.alloc (.cells #[nV id',.slice A5 1 c5] 258)) _ (hB5.a.keep (Stp.alloc w5 _ (fun _=>False) _ 0) id);have hk7:=hlook (w5.alloc (.cells #[nV id',.slice A5 1 c5] 258)).drew _ (hB5.a.keep (Stp.alloc w5 _ (fun _=>False) _ 0).drew id);obtain⟨τ,hτ,hfr⟩:=dW w5 (upT t w1.drew (m+3));have hN5:=RT.nil w5 (upT t w1.drew (m+3)) τ 258 2)
   | (refine mV rfl (.tmp 93) (.tmp 98) 256 rfl 258 _ 2 32 Tryz.underlying256 BN rfl (upT t w1.drew (m+3)) τ (.slice none 0 0) 0 [] (by go_simp) hN5 [nV id',.slice A5 1 c5] w5.heap.size rfl (by go_simp) rfl (by intro u hu;simp at hu;rcases hu with rfl|rfl<;>rfl) (by decide) ?_;intro v7 w7 t7 hr7 hs7;obtain⟨A7,c7,rfl,-,-,-,-⟩:=hr7.form;obtain⟨hr8,s7⟩:=hr7.fresh (hs7 (fun x=>x=τ) rfl) hfr (m+2);have hB7:=hB5.keep s7 fun _ _ h=>h;obtain⟨w8,hrun,hA8,hS8⟩:=hB7.a.put zu Tryz.underlying251 p hpk (RtE.mk (.slice A7 1 c7) (.slice A5 1 c5) id' me))
   | (refine kQ rfl (.tmp 93) (.tmp 98) 256 rfl 258 _ 2 32 Tryz.underlying256 BN rfl (upT t w1.drew (m+3)) τ (.slice none 0 0) 0 [] (by go_simp) hN5 [nV id',.slice A5 1 c5] w5.heap.size rfl (by go_simp) rfl (by intro u hu;simp at hu;rcases hu with rfl|rfl<;>rfl) (by decide) ?_;intro v7 w7 t7 hr7 hs7;obtain⟨A7,c7,rfl,-,-,-,-⟩:=hr7.form;obtain⟨hr8,s7⟩:=hr7.fresh (hs7 (fun x=>x=τ) rfl) hfr (m+2);have hB7:=hB5.keep s7 fun _ _ h=>h;obtain⟨w8,hrun,hA8,hS8⟩:=hB7.a.put zu Tryz.underlying251 p hpk (RtE.mk (.slice A7 1 c7) (.slice A5 1 c5) id' me)))
  all_goals
   have z8:=hS8 (fun x=>x=m+1) rfl
   have hb8:=hB7.b.keep z8 (by omega)
   have hx8:=fun y hy=>(⟨(hB7.x y hy).1.keep z8 (by omega),(hB7.x y hy).2.keep z8 (by omega)⟩:RT w8 _ (m+2) 258 2 y.2.v 1 [nV y.2.id,y.2.mv]/\ RT w8 _ (m+3) 9 1 y.2.mv 1 [.string y.2.me])
   have hr9:=hr8.keep z8 (by omega)
   have hm9:=(hr5.keep s7 id).keep z8 (by omega)
   have s9:=(((s1.trans (Stp.refl (fun _=>False) w1 t).drew fun _ h=>h).trans s5 fun _ h=>h).trans s7 fun _ h=>h).mono (S':=Mk m 5) fun _ h=>h.elim
   have s10:=s9.trans z8 fun y (h:y=m+1)=>(show Mk m 5 y by omega)
   obtain⟨hb11,z11⟩:=hb8.aH 2 (.int .i64 ((L.length:Int)+1));have hAp:bK L p (RtE.mk (.slice A7 1 c7) (.slice A5 1 c5) id' me)=L++ [(p,RtE.mk (.slice A7 1 c7) (.slice A5 1 c5) id' me)]:=by
    rw[bK,if_neg];intro hh;rw[jD,List.any_eq_true]at hh;obtain⟨q,hq,e⟩:=hh;obtain⟨j,hj⟩:=List.mem_iff_getElem?.1 hq;have h5:=zf L j q hB.a.2.2.1 hj;rw[show q.1=p by simpa using e,hL]at h5
    cases h5
   rw[hAp]at hA8
   have hK:RtK _ _ m g (l++ [(p,(id',me))]):=⟨ba,bu,L++ [(p,RtE.mk (.slice A7 1 c7) (.slice A5 1 c5) id' me)],⟨hb11.to (by simp),hA8.keep z11 (by omega),fun y hy=>by
    rcases List.mem_append.1 hy with hy|hy
    ·exact⟨(hx8 y hy).1.keep z11 (by omega),(hx8 y hy).2.keep z11 (by omega)⟩
    ·obtain rfl:y=(p,RtE.mk (.slice A7 1 c7) (.slice A5 1 c5) id' me):=by simpa using hy
     exact⟨hr9.keep z11 (by omega),hm9.keep z11 (by omega)⟩⟩,by rw[List.map_append,el];rfl⟩
   have s12:=s10.trans z11 fun y (h:y=m)=>(show Mk m 5 y by omega)
   clear hx8 hr9 hm9 s9 s10 z11 hb11 hAp hA8 hS8 hr8 s7 hB7 hrun hr5 hB5 hN5 hl64;obtain⟨j0,j1,j2,z0,z1,z2⟩:=hb8.b.c3;go_wp2_with fail
   go_ret
   exact⟨rfl,_,hK,s12⟩
def eu:ByteArray:=⟨#[71,69,84]⟩
theorem Wv (w:World) (t:Nat-> Nat) (m g ba bu:Nat) (L:RtL) (p:ByteArray) (x:RtE) (h:RtB w t m g ba bu L) (hp:p.size<= 1000000) (hx:aT L p=some x):
 Calls Tryz.prog 313 #[pV g,.string p] w fun e w'=>e= .returned (.tuple #[x.v,.string ⟨#[]⟩])/\ w=w':=by
 obtain⟨A,c,hv,-,-,-,hA⟩:=(h.x _ (cZ hx)).1.form;obtain⟨b,o,rfl⟩: ∃b o,A=some ⟨b,o,none⟩:=by
  obtain⟨b,o,cap,e,-⟩:=(h.x _ (cZ hx)).1.at_ (by omega)
  rw[hv]at e;injection e with e _ _
  exact⟨b,o,e⟩
 have hk:=h.a.look zu Tryz.underlying251 (z:=.slice none 0 0) (by rfl) p hp false
 rw[hx]at hk;replace hk:(Instr.lookup 251 (.map (some ba)) (.string p) false).run Tryz.prog w= .ok (.slice (some ⟨b,o,none⟩) 1 c) w:=by rw[<- hv];exact hk
 obtain⟨j0,j1,j2,-,-,-⟩:=h.b.b.c3;rw[hv];clear h hx hv hA;go_enter Tryz.func313,Tryz.ntmps313
 go_wp2_with fail
 go_ret2
 exact⟨rfl,rfl⟩
theorem aaH (w:World) (t:Nat-> Nat) (m g ba bu:Nat) (L:RtL) (p:ByteArray) (x:RtE) (h:RtB w t m g ba bu L) (hx:aT L p=some x) (hme:x.me=eu):
 Calls Tryz.prog 314 #[x.v,.string eu] w fun e w'=>e= .returned (.tuple #[nV x.id,.bool true])/\ Below w.heap.size w w':=by
 obtain⟨h1,h2⟩:=h.x _ (cZ hx);obtain⟨b,o,c,hv,hb,-,hc⟩:=h1.at_ (by omega)
 obtain⟨b2,o2,c2,hv2,hb2,-,hc2⟩:=h2.at_ (by omega)
 simp only at hv hv2 hc hc2;have y0:w.cell? ⟨b,o,none⟩=some (nV x.id):=(hc 0 (by omega)).1
 have y1:w.cell? ⟨b,o+1,none⟩=some (.slice (some ⟨b2,o2,none⟩) 1 c2):=by rw[<- hv2];exact(hc 1 (by omega)).1
 have y2:w.cell? ⟨b2,o2,none⟩=some (.string eu):=by rw[<- hme];exact(hc2 0 (by omega)).1
 rw[hv];clear h1 h2 hc hc2 hv hv2 h hx hme;go_enter Tryz.func314,Tryz.ntmps314
 go_wp2_with fail
 go_loopw [10] (fun z wr=>z= .int .i64 0/\ w=wr) (fun _ _=>0)
 case atStart=>exact⟨rfl,rfl⟩
 case round=>
  obtain⟨rfl,rfl⟩:=hrel;go_upto_region 4 with(fail)
  have BV:=BT.new' w t 9 w.heap.size rfl 258 #[.int .i64 x.id,.slice (some ⟨b2,o2,none⟩) 1 c2];have LV:Below w.heap.size w (w.alloc (.cells #[.int .i64 x.id,.slice (some ⟨b2,o2,none⟩) 1 c2] 258)):=aj (Below.refl _ _) _;obtain⟨V,hV⟩: ∃V,V=w.alloc (.cells #[.int .i64 x.id,.slice (some ⟨b2,o2,none⟩) 1 c2] 258):=⟨_,rfl⟩;rw[<- hV]at BV LV⊢;clear hV;have y3:=(LV.cell (p:=⟨b2,o2,none⟩) hb2).trans y2;obtain⟨k0,k1,-,-⟩:=BV.b.c2
  have hC:=(Tryz.slices_Contains_string b2 o2 1 c2 [eu] eu V (by simp) (by omega) (fun j hj=>by
   obtain rfl:j=0:=by simp at hj;exact hj
   exact y3)).mono fun e w' h=>(⟨h.1,h.2.symm⟩:_/\ V=w')
  rw[show Lib.containsS ([eu].take 1) eu=true from(Lib.containsS_iff _ _).2 (by simp)]at hC
  go_wp2_with fail
  refine hC.mono ?_;rintro e w1 ⟨rfl,rfl⟩;go_wp2_with fail
  go_ret2
  exact⟨rfl,LV⟩
theorem QG (w:World) (t:Nat-> Nat) (m g:Nat) (l:List (ByteArray×(Nat×ByteArray))) (p:ByteArray) (i:Nat) (h:RtK w t m g l) (hp:p.size<= 1000000) (hx:aT l p=some (i,eu)):
 Calls Tryz.prog 290 #[pV g,.string eu,.string p] w fun e w'=>e= .returned (.tuple #[nV i,.string ⟨#[]⟩,.slice none 0 0,.int .i64 200])/\ Below w.heap.size w w':=by
 obtain⟨ba,bu,L,h,el⟩:=h;have hg:=Wu el p;rw[hx]at hg;obtain⟨x,hL,hi,hme⟩: ∃x,aT L p=some x/\ x.id=i/\ x.me=eu:=by
  cases hy:aT L p with
  |none=>rw[hy]at hg;cases hg
  |some y=>rw[hy]at hg;injection hg with hg;injection hg with h1 h2;exact⟨y,rfl,h1.symm,h2.symm⟩
 have hF:=Wv w t m g ba bu L p x h hp hL;have hO:=aaH w t m g ba bu L p x h hL hme;obtain⟨b,o,c,hv,-,-,-⟩:=(h.x _ (cZ hL)).1.at_ (by omega)
 simp only at hv;rw[hi]at hO;rw[hv]at hF hO;clear h hx hL hme hg;have he: ∀w:World,(binOp BinOp.eql 256 (.slice (some ⟨b,o,none⟩) 1 c) (.slice none 0 0)).run Tryz.prog w= .ok (.bool false) w:=fun w=>by rfl
 go_enter Tryz.func290,Tryz.ntmps290
 go_wp2_with fail
 refine hF.mono ?_;rintro e w1 ⟨rfl,rfl⟩;go_wp2_with fail
 refine hO.mono ?_;rintro e w1 ⟨rfl,L1⟩;go_wp2_with fail
 refine bodyPost_ret (v:=.tuple #[nV i,.string ⟨#[]⟩,.slice none 0 0,.int .i64 200]) (by simp[results,Tryz.results290,go_sem]) rfl ⟨rfl,L1⟩
end Go.Proofs.YtdmondfpepbniaaGreatDoor
