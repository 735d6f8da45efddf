/- Part 22 of the proof: Vn Vl. -/
import Derived.Test.YtdmondfpepbniaaGreatDoorQ16
import Derived.Test.YtdmondfpepbniaaGreatDoorQ21
namespace Go.Proofs.YtdmondfpepbniaaGreatDoor
open Go.RowKit
set_option maxRecDepth 100000
set_option maxHeartbeats 4000000
set_option linter.all false
def ncC (x:NC) (vi vg vt:Value):Array Value:=#[.bool x.waits,.bool x.op,.bool x.broken,nV x.peer,.bool x.halved,.bool x.shut,.bool x.taken,vi,nV x.window,nV x.rd,nV x.wr,vg,vt]
structure NcB (w:World) (t:Nat-> Nat) (m g:Nat) (x:NC) (vi vg vt:Value):Prop where
 b:BT w t m g 93 (ncC x vi vg vt)
 i:RT w t (m+1) 5 1 vi x.inp.length (x.inp.map bv)
 g:RT w t (m+2) 5 1 vg x.got.length (x.got.map bv)
 t:RT w t (m+3) 5 1 vt x.told.length (x.told.map bv)
def NcK (w:World) (t:Nat-> Nat) (m g:Nat) (x:NC):Prop:= ∃vi vg vt,NcB w t m g x vi vg vt
theorem NcK.keep {S:Nat-> Prop} {w w':World} {t t':Nat-> Nat} {m g:Nat} {x:NC} (h:NcK w t m g x) (st:Stp S w t w' t') (h0: ∀y,Mk m 5 y-> ¬S y):NcK w' t' m g x:=by
 obtain⟨vi,vg,vt,a⟩:=h;exact⟨vi,vg,vt,a.b.keep st (h0 _ (by omega)),a.i.keep st (h0 _ (by omega)),a.g.keep st (h0 _ (by omega)),a.t.keep st (h0 _ (by omega))⟩
abbrev pV (g:Nat):Value:=.pointer (some ⟨g,0,none⟩)
structure oW (w:World) (t:Nat-> Nat) (m gn:Nat) (n:cu) (A:List Nat) (vc vq:Value):Prop where
 b:BT w t m gn 106 #[nV n.backlog,vc,vq,.bool n.stopped,nV n.fails,nV n.marks,nV n.op]
 c:RT w t (m+1) 87 1 vc n.aG.length (A.map pV)
 q:RT w t (m+2) 3 1 vq n.queue.length (n.queue.map nV)
 l:A.length=n.aG.length
 k: ∀i x,n.aG[i]? = some x-> ∃g,A[i]? = some g/\ NcK w t (m+10+5*i) g x
 s:n.aG.length<= 100
def fP (w:World) (t:Nat-> Nat) (m gn:Nat) (n:cu):Prop:= ∃A vc vq,oW w t m gn n A vc vq
theorem oW.keep {S:Nat-> Prop} {w w':World} {t t':Nat-> Nat} {m gn:Nat} {n:cu} {A:List Nat} {vc vq:Value} (h:oW w t m gn n A vc vq) (st:Stp S w t w' t') (h0: ∀y,Mk m 1000 y-> ¬S y):oW w' t' m gn n A vc vq:=
 ⟨h.b.keep st (h0 _ (by omega)),h.c.keep st (h0 _ (by omega)),h.q.keep st (h0 _ (by omega)),h.l,fun i x hx=>by
   obtain⟨g,hg,hk⟩:=h.k i x hx;have hi:i<n.aG.length:=(List.getElem?_eq_some_iff.1 hx).1;have:=h.s
   exact⟨g,hg,hk.keep st fun y hy=>h0 y (by omega)⟩,h.s⟩
theorem fP.keep {S:Nat-> Prop} {w w':World} {t t':Nat-> Nat} {m gn:Nat} {n:cu} (h:fP w t m gn n) (st:Stp S w t w' t') (h0: ∀y,Mk m 1000 y-> ¬S y):fP w' t' m gn n:=by
 obtain⟨A,vc,vq,a⟩:=h;exact⟨A,vc,vq,a.keep st h0⟩
theorem oW.drewN {w:World} {t:Nat-> Nat} {m gn:Nat} {n:cu} {A:List Nat} {vc vq:Value} (h:oW w t m gn n A vc vq) (k:Nat):oW (w.drewN k) t m gn n A vc vq:=h.keep ((Stp.refl (fun _=>False) w t).drewN k) fun _ _ h=>h
theorem oW.up {S:Nat-> Prop} {w w':World} {t t':Nat-> Nat} {m gn:Nat} {n:cu} {A:List Nat} {vc vq:Value} (h:oW w t m gn n A vc vq) (i:Nat) (x:NC) (g:Nat) (f:NC-> NC) (hx:n.aG[i]? = some x) (hg:A[i]? = some g)
 (st:Stp S w t w' t') (hS: ∀y,S y-> Mk (m+10+5*i) 5 y) (hk:NcK w' t' (m+10+5*i) g (f x)):oW w' t' m gn (n.up i f) A vc vq:=by
 have hi:i<n.aG.length:=(List.getElem?_eq_some_iff.1 hx).1;refine⟨h.b.keep st fun hs=>by have:=hS _ hs;omega,by rw[show(n.up i f).aG.length=n.aG.length by simp[cu.up]];exact h.c.keep st fun hs=>(by have:=hS _ hs;omega),h.q.keep st fun hs=>(by have:=hS _ hs;omega),by rw[show(n.up i f).aG.length=n.aG.length by simp[cu.up]];exact h.l,fun j y hy=> ?_,by rw[show(n.up i f).aG.length=n.aG.length by simp[cu.up]];exact h.s⟩
 rw[show(n.up i f).aG=n.aG.modify i f from rfl,List.getElem?_modify]at hy
 by_cases hij:i=j
 ·subst hij
  obtain rfl:f x=y:=by simpa [hx] using hy
  exact⟨g,hg,hk⟩
 ·obtain⟨g2,hg2,hk2⟩:=h.k j y (by simp only[if_neg hij]at hy;simpa using hy)
  exact⟨g2,hg2,hk2.keep st fun z hz hs=>by have:=hS _ hs;omega⟩
theorem oW.fin {w w':World} {t t':Nat-> Nat} {m gn:Nat} {n:cu} {A:List Nat} {vc vq:Value} (h:oW w t m gn n A vc vq) {i:Nat} {x:NC} {g:Nat} (f:NC-> NC) (hx:n.aG[i]? = some x) (hg:A[i]? = some g)
 (st:Stp (Mk (m+10+5*i) 5) w t w' t') (hk:NcK w' t' (m+10+5*i) g (f x)): ∃t',fP w' t' m gn (n.up i f)/\ Stp (Mk m 1000) w t w' t':=by
 have hi:i<n.aG.length:=(List.getElem?_eq_some_iff.1 hx).1;have hs:=h.s;exact⟨t',⟨A,vc,vq,h.up i x g f hx hg st (fun _ h=>h) hk⟩,st.mono fun y hy=>by omega⟩
theorem NcK.drew {w:World} {t:Nat-> Nat} {m g:Nat} {x:NC} (h:NcK w t m g x):NcK w.drew t m g x:=h.keep (Stp.refl (fun _=>False) w t).drew fun _ _ h=>h
theorem NcB.sets {w w':World} {t:Nat-> Nat} {m g:Nat} {x y:NC} {vi vg vt:Value} {cs:Array Value} (h:NcB w t m g x vi vg vt) (b:BT w' t m g 93 cs) (s:Stp (fun z=>z=m) w t w' t) (hc:cs=ncC y vi vg vt) (h1:y.inp=x.inp) (h2:y.got=x.got) (h3:y.told=x.told):
 NcK w' t m g y/\ Stp (Mk m 5) w t w' t:=
 ⟨⟨vi,vg,vt,b.to hc,by rw[h1];exact h.i.keep s (by omega),by rw[h2];exact h.g.keep s (by omega),by rw[h3];exact h.t.keep s (by omega)⟩,s.mono fun z (hz:z=m)=>(show m<= z/\ z<m+5 by omega)⟩
theorem YZ (w:World) (t:Nat-> Nat) (m:Nat):
 Calls Tryz.prog 35 #[.int .i64 8] w fun e w'=> ∃g,e= .returned (.tuple #[pV g,.int .i64 0])/\ ∃t',w.heap.size<= g/\ fP w' t' m g ⟨8,[],[],false,0,0,0⟩/\ Stp (fun _=>False) w t w' t':=by
 go_enter Tryz.func35,Tryz.ntmps35
 go_wp2_with fail
 go_ret2
 exact⟨w.heap.size,rfl,upT t w m,Nat.le_refl _,⟨[],_,_,BT.new _ _ _ _ _,RT.nil _ _ _ _ _,RT.nil _ _ _ _ _,rfl,fun i x h=>by simp at h,by simp⟩,Stp.alloc _ _ _ _ _⟩
theorem yg (w:World) (t:Nat-> Nat) (m gn:Nat) (n:cu) (A:List Nat) (vc vq:Value) (h:oW w t m gn n A vc vq) (i:Nat) (hi:i<n.aG.length):
 Calls Tryz.prog 30 #[pV gn,nV i] w fun e w'=>(∃g,A[i]? = some g/\ e= .returned (pV g))/\ w=w':=by
 obtain⟨g,hg⟩: ∃g,A[i]? = some g:=⟨A[i]'(by rw[h.l];exact hi),List.getElem?_eq_getElem _⟩
 obtain⟨gr,off,c,rfl,hgl,hm,hcell⟩:=h.c.at_ (by omega)
 have j1:w.cell? ⟨gn,1,none⟩=some (.slice (some ⟨gr,off,none⟩) n.aG.length c):=h.b.b.cell 1;have hx:w.cell? ⟨gr,off+i,none⟩=some (pV g):=by rw[(hcell i (by omega)).1,List.getElem?_map,hg];rfl
 have d1:decide (n.aG.length<= i)=false:=by simp;omega
 have d2:(i:Int)< (n.aG.length:Int):=by omega
 have HG:=Lib.hid hg;clear hcell hg;go_enter Tryz.func30,Tryz.ntmps30
 go_wp2_with fail
 go_ret
 exact⟨⟨g,HG.out,rfl⟩,rfl⟩
def uq (b:Bool) (g:Nat) (e:Ending):Prop:=if b then e= .returned (.tuple #[pV g,.int .i64 0])else∃k:Int,k≠0/\ e= .returned (.tuple #[.pointer none,.int .i64 k])
theorem BI (w:World) (t:Nat-> Nat) (m gn:Nat) (n:cu) (A:List Nat) (vc vq:Value) (h:oW w t m gn n A vc vq) (i:Nat) (x:NC) (hx:n.aG[i]? = some x):
 Calls Tryz.prog 37 #[pV gn,nV i] w fun e w'=>(∃g,A[i]? = some g/\ uq (nJ x) g e)/\ w=w':=by
 have hi:i<n.aG.length:=(List.getElem?_eq_some_iff.1 hx).1;have hAt:=yg w t m gn n A vc vq h i hi;obtain⟨g0,hg0,vi,vg,vt,hk⟩:=h.k i x hx;have j0:w.cell? ⟨g0,0,none⟩=some (.bool x.waits):=hk.b.b.cell 0;have j1:w.cell? ⟨g0,1,none⟩=some (.bool x.op):=hk.b.b.cell 1;have j2:w.cell? ⟨g0,2,none⟩=some (.bool x.broken):=hk.b.b.cell 2;have HT:=Lib.hid (show nJ x=(!x.broken&& (x.waits||x.op))from rfl)
 go_enter Tryz.func37,Tryz.ntmps37
 go_wp2_with fail
 refine hAt.mono ?_;rintro e w1 ⟨⟨g,hg,rfl⟩,rfl⟩;obtain rfl:g0=g:=by rw[hg0]at hg;exact Option.some.inj hg
 have HG:=Lib.hid hg0;clear hg hg0 hAt;generalize x.waits=bw at*;generalize x.op=bo at*;generalize x.broken=bb at*;cases bb
 ·cases bw
  ·cases bo
   ·go_wp2_with fail
    go_ret2
    exact⟨⟨g0,HG.out,by rw[HT.out];exact(show uq false _ _ from⟨6,by decide,rfl⟩)⟩,rfl⟩
   ·go_wp2_with fail
    go_ret2
    exact⟨⟨g0,HG.out,by rw[HT.out];exact(show uq true _ _ from rfl)⟩,rfl⟩
  ·go_wp2_with fail
   go_ret2
   exact⟨⟨g0,HG.out,by rw[HT.out];exact(show uq true _ _ from rfl)⟩,rfl⟩
 ·go_wp2_with fail
  go_ret2
  exact⟨⟨g0,HG.out,by rw[HT.out];exact(show uq false _ _ from⟨5,by decide,rfl⟩)⟩,rfl⟩
theorem BJ (w:World) (t:Nat-> Nat) (m gn:Nat) (n:cu) (A:List Nat) (vc vq:Value) (h:oW w t m gn n A vc vq) (i:Nat) (x:NC) (hx:n.aG[i]? = some x):
 Calls Tryz.prog 129 #[pV gn,nV i] w fun e w'=>(∃g,A[i]? = some g/\ uq (mJ x) g e)/\ w=w':=by
 have hi:i<n.aG.length:=(List.getElem?_eq_some_iff.1 hx).1;have hAt:=yg w t m gn n A vc vq h i hi;obtain⟨g0,hg0,vi,vg,vt,hk⟩:=h.k i x hx;have j0:w.cell? ⟨g0,0,none⟩=some (.bool x.waits):=hk.b.b.cell 0;have j1:w.cell? ⟨g0,1,none⟩=some (.bool x.op):=hk.b.b.cell 1;have j2:w.cell? ⟨g0,2,none⟩=some (.bool x.broken):=hk.b.b.cell 2;have HT:=Lib.hid (show mJ x=(!x.waits&& (x.op&& !x.broken))from rfl)
 go_enter Tryz.func129,Tryz.ntmps129
 go_wp2_with fail
 refine hAt.mono ?_;rintro e w1 ⟨⟨g,hg,rfl⟩,rfl⟩;obtain rfl:g0=g:=by rw[hg0]at hg;exact Option.some.inj hg
 have HG:=Lib.hid hg0;clear hg hg0 hAt;generalize x.waits=bw at*;generalize x.op=bo at*;generalize x.broken=bb at*;cases bw
 ·cases bo
  ·go_wp2_with fail
   go_ret2
   exact⟨⟨g0,HG.out,by rw[HT.out];exact(show uq false _ _ from⟨6,by decide,rfl⟩)⟩,rfl⟩
  ·cases bb
   ·go_wp2_with fail
    go_ret2
    exact⟨⟨g0,HG.out,by rw[HT.out];exact(show uq true _ _ from rfl)⟩,rfl⟩
   ·go_wp2_with fail
    go_ret2
    exact⟨⟨g0,HG.out,by rw[HT.out];exact(show uq false _ _ from⟨5,by decide,rfl⟩)⟩,rfl⟩
 ·go_wp2_with fail
  go_ret2
  exact⟨⟨g0,HG.out,by rw[HT.out];exact(show uq false _ _ from⟨2,by decide,rfl⟩)⟩,rfl⟩
def iH (h:Hn):Prop:=h.1<= 1000000000/\ h.2<= 1000000000
theorem V6:Go.Maps.Keyed Tryz.prog 72:=
 Go.Maps.Keyed.of_law (deep_law_laid (by kernel_rfl) (m:=2) (by omega) (of_decide_eq_true (by kernel_rfl)) (by kernel_rfl) (by kernel_rfl))
theorem aaE (h:Hn) (ok:iH h): ∃c,keyOf Tryz.prog 72 (hnV h)=some c:=by
 have hk:Tryz.prog.keyType 72=true:=by kernel_rfl
 have hu:=Tryz.underlying72;have hi:=Tryz.underlying3;have hc:Tryz.prog.cellsOf 72=2:=by kernel_rfl
 have hc1:Tryz.prog.cellsOf 3=1:=by kernel_rfl
 obtain⟨D,hD⟩: ∃D,Tryz.prog.types.size+1=D+2:=⟨Tryz.prog.types.size-1,by have:1<= Tryz.prog.types.size:=of_decide_eq_true (by kernel_rfl);omega⟩
 obtain⟨a,b⟩:=h;obtain⟨h1,h2⟩:=ok;have w1:(Lit.int .i64 (a:Int)).wf=true:=by rw[Lit.wf,Bool.and_eq_true,decide_eq_true_eq,decide_eq_true_eq];constructor<;>simp[IntKind.min,IntKind.max,IntKind.signed,IntKind.bits]<;>omega
 have w2:(Lit.int .i64 (b:Int)).wf=true:=by rw[Lit.wf,Bool.and_eq_true,decide_eq_true_eq,decide_eq_true_eq];constructor<;>simp[IntKind.min,IntKind.max,IntKind.signed,IntKind.bits]<;>omega
 have hf:Value.formed Tryz.prog 72 (hnV (a,b))=true:=by simp[Value.formed,hu,hc]
 unfold keyOf;rw[hu];simp only[hk,Bool.true_and,hf,if_true,hD];simp[Program.keyLits,hu,hi,hc,hc1,Value.cells,w1,w2,List.mapM_cons]
theorem uQ:MK Tryz.prog 72 hnV iH:=
 ⟨V6,aaE,fun a b _ _ h=>by
   obtain⟨a1,a2⟩:=a;obtain⟨b1,b2⟩:=b;simp only[hnV,Value.agg.injEq,Array.mk.injEq,List.cons.injEq,Value.int.injEq,true_and,and_true]at h;obtain⟨h1,h2⟩:=h
   rw[show a1=b1 by omega,show a2=b2 by omega]⟩
section
variable {α β γ:Type} [DecidableEq α]
theorem nT (f:β-> γ) (l:List (α×β)) (a:α):aT (l.map fun p=>(p.1,f p.2)) a=(aT l a).map f:=by
 simp only[aT,List.find?_map,Option.map_map];rfl
theorem BK (f:β-> γ) (l:List (α×β)) (a:α):jD (l.map fun p=>(p.1,f p.2)) a=jD l a:=by simp[jD,List.any_map,Function.comp_def]
theorem nU (f:β-> γ) (l:List (α×β)) (a:α) (b:β):bK (l.map fun p=>(p.1,f p.2)) a (f b)=(bK l a b).map fun p=>(p.1,f p.2):=by
 simp only[bK,BK];split
 ·simp only[dL,List.map_map]
  apply List.map_congr_left;intro p _;by_cases h:p.1=a<;>simp[h]
 ·simp
theorem V7 (f:β-> γ) (l:List (α×β)) (a:α):jO (l.map fun p=>(p.1,f p.2)) a=(jO l a).map fun p=>(p.1,f p.2):=by
 simp only[jO,List.filter_map];rfl
theorem cZ {l:List (α×β)} {a:α} {b:β} (h:aT l a=some b):(a,b)∈l:=by
 rw[aT,Option.map_eq_some_iff]at h;obtain⟨p,hp,rfl⟩:=h;have h1:=List.find?_some hp;have h2:=List.mem_of_find?_eq_some hp;rw[decide_eq_true_eq]at h1;rw[<- h1];exact h2
theorem Jw {l:List (α×β)} {a:α} {b:β} {p:α×β} (h:p∈bK l a b):p∈l\/ p=(a,b):=by
 rw[bK]at h;split at h
 ·rw[dL,List.mem_map]at h
  obtain⟨q,hq,rfl⟩:=h;split
  ·exact .inr rfl
  ·exact .inl hq
 ·simpa using h
theorem V8 {l:List (α×β)} {a:α} {p:α×β} (h:p∈jO l a):p∈l:=(List.mem_filter.1 h).1
end
def wsC (x:WS):Array Value:=#[.int .i64 x.id,.bool x.rd,.bool x.wr,.bool false,.int .i64 0,.int .i64 0]
abbrev WL:=List (Hn×(Nat×WS))
structure nX (w:World) (t:Nat-> Nat) (m gn g:Nat) (p:fK) (gs bm:Nat) (L:WL):Prop where
 b:BT w t m g 124 #[pV gn,pV gs,.map (some bm)]
 s:jT w t (m+1) gs p.dN
 a:MT w t (m+6) bm hnV iH (fun y:Nat×WS=>pV y.1) L
 l:L.map (fun x=>(x.1,x.2.2))=p.all
 d:(L.map (·.2.1)).Nodup
 x: ∀y∈L,BT w t (m+7) y.2.1 176 (wsC y.2.2)
def pO (w:World) (t:Nat-> Nat) (m gn g:Nat) (p:fK):Prop:= ∃gs b L,nX w t m gn g p gs b L
theorem nX.keep {S:Nat-> Prop} {w w':World} {t t':Nat-> Nat} {m gn g:Nat} {p:fK} {gs b:Nat} {L:WL} (h:nX w t m gn g p gs b L) (st:Stp S w t w' t') (h0: ∀y,Mk m 8 y-> ¬S y):nX w' t' m gn g p gs b L:=
 ⟨h.b.keep st (h0 _ (by omega)),h.s.keep st (h0 _ (by omega)) (h0 _ (by omega)),h.a.keep st (h0 _ (by omega)),h.l,h.d,fun y hy=>(h.x y hy).keep st (h0 _ (by omega))⟩
theorem pO.keep {S:Nat-> Prop} {w w':World} {t t':Nat-> Nat} {m gn g:Nat} {p:fK} (h:pO w t m gn g p) (st:Stp S w t w' t') (h0: ∀y,Mk m 8 y-> ¬S y):pO w' t' m gn g p:=by
 obtain⟨gs,b,L,a⟩:=h;exact⟨gs,b,L,a.keep st h0⟩
theorem nX.get {w:World} {t:Nat-> Nat} {m gn g:Nat} {p:fK} {gs b:Nat} {L:WL} (h:nX w t m gn g p gs b L) (a:Hn):aT p.all a=(aT L a).map (·.2):=by
 rw[<- h.l];exact nT (fun y:Nat×WS=>y.2) L a
theorem Wh (w:World) (t:Nat-> Nat) (m gn:Nat):
 Calls Tryz.prog 65 #[pV gn] w fun e w'=> ∃g,e= .returned (.tuple #[pV g,.int .i64 0])/\ ∃t',pO w' t' m gn g ⟨⟨4096,[],0⟩,[]⟩/\ Stp (Mk m 10) w t w' t':=by
 have hN:=Oj 4096 w t (m+1) (by omega) (by omega)
 have hmk: ∀w:World,(Instr.makeMap 122 none).run Tryz.prog w= .ok (.map (some w.heap.size)) (w.alloc (.map #[] 0)):=fun _=>rfl
 go_enter Tryz.func65,Tryz.ntmps65
 go_wp2_with fail
 refine hN.mono ?_;rintro e w1 ⟨rfl,t1,hs1,st1⟩;go_wp2_with fail
 go_ret2
 have s2:=Stp.alloc w1 t1 (fun _=>False) (.map #[] 0) (m+6)
 have hm:=MT.new w1 t1 (m+6) hnV iH (fun y:Nat×WS=>pV y.1)
 obtain⟨W,hW⟩: ∃W,W=w1.alloc (.map #[] 0):=⟨_,rfl⟩;have hWs:w1.heap.size+1=W.heap.size:=by rw[hW];simp
 rw[<- hW]at s2 hm⊢;have s3:=Stp.alloc W (upT t1 w1 (m+6)) (fun _=>False) (.cells #[pV gn,pV w.heap.size,.map (some w1.heap.size)] 124) m
 have hb:=BT.new' W (upT t1 w1 (m+6)) m (w1.heap.size+1) hWs 124 #[pV gn,pV w.heap.size,.map (some w1.heap.size)];refine⟨_,rfl,_,⟨w.heap.size,w1.heap.size,[],hb,(hs1.keep s2 id id).keep s3 id id,hm.keep s3 id,rfl,by simp,fun y hy=>by cases hy⟩,?_⟩
 exact((st1.mono (S':=Mk m 10) fun y hy=>by omega).trans s2 fun _ h=>h.elim).trans s3 fun _ h=>h.elim
end Go.Proofs.YtdmondfpepbniaaGreatDoor
