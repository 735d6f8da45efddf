/- Part 2 of the proof: Va. -/
import Derived.Maps.Keyed
import Derived.Test.YtdmondfpepbniaaGreatDoorQ00
namespace Go.Proofs.YtdmondfpepbniaaGreatDoor
open Go.RowKit
set_option maxRecDepth 100000
set_option maxHeartbeats 4000000
structure Stp (S:Nat-> Prop) (w:World) (t:Nat-> Nat) (w':World) (t':Nat-> Nat):Prop where
 fr:Fr (fun k=>S (t k)) w w'
 old: ∀k,k<w.heap.size-> t' k=t k
def upT (t:Nat-> Nat) (w:World) (τ:Nat):Nat-> Nat:=fun k=>if k<w.heap.size then t k else τ
theorem iq {t:Nat-> Nat} {w:World} {τ k:Nat} (h:k<w.heap.size):upT t w τ k=t k:=if_pos h
theorem iO {t:Nat-> Nat} {w:World} {τ k:Nat} (h:w.heap.size<= k):upT t w τ k=τ:=if_neg (by omega)
namespace Stp
variable {S S':Nat-> Prop} {w w' w'':World} {t t' t'':Nat-> Nat}
theorem refl (S:Nat-> Prop) (w:World) (t:Nat-> Nat):Stp S w t w t:=⟨Fr.refl _ _,fun _ _=>rfl⟩
theorem trans (h:Stp S w t w' t') (k:Stp S' w' t' w'' t'') (hS: ∀i,S' i-> S i):Stp S w t w'' t'':=
 ⟨h.fr.trans k.fr fun i hi=>by
   rcases Nat.lt_or_ge i w.heap.size with h1|h1
   ·exact .inl (by rw[<- h.old i h1];exact hS _ hi)
   ·exact .inr h1,fun i hi=>(k.old i (Nat.lt_of_lt_of_le hi h.fr.size)).trans (h.old i hi)⟩
theorem mono (h:Stp S w t w' t') (hS: ∀i,S i-> S' i):Stp S' w t w' t':=⟨h.fr.mono fun _i hi=>.inl (hS _ hi),h.old⟩
theorem size (h:Stp S w t w' t'):w.heap.size<= w'.heap.size:=h.fr.size
theorem block (h:Stp S w t w' t') {g:Nat} (hg:g<w.heap.size) (hs: ¬S (t g)):w'.heap[g]? = w.heap[g]? := h.fr.block g hg hs
theorem dB (h:Below w.heap.size w w') (S:Nat-> Prop) (τ:Nat):Stp S w t w' (upT t w τ):=
 ⟨(Fr.dB h).mono fun _i hi=>.inr hi,fun _ hk=>iq hk⟩
theorem ofFr {X:Nat-> Prop} (h:Fr X w w') (hX: ∀k,X k-> k<w.heap.size-> S (t k)) (τ:Nat):Stp S w t w' (upT t w τ):=
 ⟨h.mono fun i hi=>by
   rcases Nat.lt_or_ge i w.heap.size with h1|h1
   ·exact .inl (hX i hi h1)
   ·exact .inr h1,fun _ hk=>iq hk⟩
theorem drew (h:Stp S w t w' t'):Stp S w t w'.drew t':=⟨h.fr.drew,h.old⟩
theorem drewN (h:Stp S w t w' t') (n:Nat):Stp S w t (w'.drewN n) t':=⟨h.fr.drewN n,h.old⟩
end Stp
structure BT (w:World) (t:Nat-> Nat) (τ g:Nat) (T:TypeId) (cs:Array Value):Prop where
 m:t g=τ
 b:Blk w g T cs
namespace BT
variable {S:Nat-> Prop} {w w':World} {t t':Nat-> Nat} {τ g:Nat} {T:TypeId} {cs:Array Value}
theorem lt (h:BT w t τ g T cs):g<w.heap.size:=h.b.lt
theorem keep (h:BT w t τ g T cs) (s:Stp S w t w' t') (hs: ¬S τ):BT w' t' τ g T cs:=
 ⟨(s.old g h.lt).trans h.m,(s.block h.lt (by rw[h.m];exact hs)).trans h.b⟩
theorem drew (h:BT w t τ g T cs):BT w.drew t τ g T cs:=⟨h.m,h.b⟩
theorem drewN (h:BT w t τ g T cs) (n:Nat):BT (w.drewN n) t τ g T cs:=⟨h.m,h.b⟩
theorem ay (h:BT w t τ g T cs) (i:Nat) (u:Value):BT (w.setCell ⟨g,i,none⟩ u) t τ g T (cs.setIfInBounds i u):=⟨h.m,h.b.ay i u⟩
theorem far (h:BT w t τ g T cs) {p:Addr} (hp:g≠p.block) (u:Value):BT (w.setCell p u) t τ g T cs:=⟨h.m,h.b.far hp u⟩
theorem new (w:World) (t:Nat-> Nat) (τ:Nat) (T:TypeId) (cs:Array Value):BT (w.alloc (.cells cs T)) (upT t w τ) τ w.heap.size T cs:=⟨iO (Nat.le_refl _),Blk.new w T cs⟩
end BT
theorem Stp.setCell {S:Nat-> Prop} {w:World} {t:Nat-> Nat} {τ g:Nat} {T:TypeId} {cs:Array Value} (h:BT w t τ g T cs) (hs:S τ) (i:Nat) (u:Value):Stp S w t (w.setCell ⟨g,i,none⟩ u) t:=
 ⟨(Fr.refl _ _).setCell (p:=⟨g,i,none⟩) (.inl (show S (t g) by rw[h.m];exact hs)) u,fun _ _=>rfl⟩
def RT (w:World) (t:Nat-> Nat) (τ:Nat) (e:TypeId) (size:Nat) (v:Value) (n:Nat) (xs:List Value):Prop:=
 xs.length=n*size/\
 ((v= .slice none 0 0/\ n=0)\/
  ∃g off cap cur fr,v= .slice (some ⟨g,off,none⟩) n cap/\ t g=τ/\ w.heap[g]? = some (.cells cur e fr)/\ xg fr cur.size/\ n<= cap/\ cap<= maxLen/\ off+cap*size<= cur.size/\ (cur.toList.drop off).take (n*size)=xs)
namespace RT
variable {S:Nat-> Prop} {w w':World} {t t':Nat-> Nat} {τ:Nat} {e:TypeId} {size n:Nat} {v:Value} {xs:List Value}
theorem nil (w:World) (t:Nat-> Nat) (τ:Nat) (e:TypeId) (size:Nat):RT w t τ e size (.slice none 0 0) 0 []:=⟨by simp,.inl ⟨rfl,rfl⟩⟩
theorem keep (h:RT w t τ e size v n xs) (s:Stp S w t w' t') (hs: ¬S τ):RT w' t' τ e size v n xs:=by
 refine⟨h.1,h.2.imp id ?_⟩;rintro⟨g,off,cap,cur,fr,rfl,hm,hg,r⟩;have hlt:=(Array.getElem?_eq_some_iff.1 hg).1;exact⟨g,off,cap,cur,fr,rfl,(s.old g hlt).trans hm,(s.block hlt (by rw[hm];exact hs)).trans hg,r⟩
theorem same (h:RT w t τ e size v n xs) (hb: ∀g off c,v= .slice (some ⟨g,off,none⟩) n c-> g<w.heap.size-> w'.heap[g]? = w.heap[g]? /\ t' g=t g):RT w' t' τ e size v n xs:=by
 refine⟨h.1,h.2.imp id ?_⟩;rintro⟨g,off,cap,cur,fr,rfl,hm,hg,r⟩;obtain⟨h1,h2⟩:=hb g off cap rfl (Array.getElem?_eq_some_iff.1 hg).1;exact⟨g,off,cap,cur,fr,rfl,h2.trans hm,h1.trans hg,r⟩
theorem drewN (h:RT w t τ e size v n xs) (k:Nat):RT (w.drewN k) t τ e size v n xs:=h
theorem drew (h:RT w t τ e size v n xs):RT w.drew t τ e size v n xs:=h
theorem Ik {w0:World} (h:Own w w0.heap.size e size v n xs) (t:Nat-> Nat) (τ:Nat):RT w (upT t w0 τ) τ e size v n xs:=by
 refine⟨h.1,h.2.imp id ?_⟩;rintro⟨g,cap,cur,fr,rfl,hb,hg,hfr,hnc,hcm,hcs,htk⟩;exact⟨g,0,cap,cur,fr,rfl,iO hb,hg,by rw[hcs];exact hfr,hnc,hcm,by omega,by rw[List.drop_zero];exact htk⟩
theorem form (h:RT w t τ e size v n xs): ∃A c,v= .slice A n c/\ n<= c/\ c<= maxLen/\ Rd w w.heap.size size A n xs/\ (A=none-> c=0):=by
 rcases h.2 with⟨rfl,rfl⟩| ⟨g,off,cap,cur,fr,rfl,hm,hg,hfr,hnc,hcm,hcs,htk⟩
 ·exact⟨none,0,rfl,Nat.le_refl _,Nat.zero_le _,⟨h.1,fun h=>absurd h (Nat.lt_irrefl 0)⟩,fun _=>rfl⟩
 ·refine⟨some ⟨g,off,none⟩,cap,rfl,hnc,hcm,⟨h.1,fun _=>⟨g,off,rfl,(Array.getElem?_eq_some_iff.1 hg).1,fun j u hu=> ?_⟩⟩,by simp⟩
  rw[cell_of_row w g (off+j) cur e fr hg];rw[<- htk,List.getElem?_take]at hu;split at hu
  ·rw[List.getElem?_drop]at hu;simpa using hu
  ·cases hu
theorem at_ (h:RT w t τ e size v n xs) (hn:0<n): ∃g off cap,v= .slice (some ⟨g,off,none⟩) n cap/\ g<w.heap.size/\ t g=τ/\ ∀j,j<n*size-> w.cell? ⟨g,off+j,none⟩=xs[j]? /\ w.frozen? ⟨g,off+j,none⟩=false:=by
 rcases h.2 with⟨rfl,rfl⟩| ⟨g,off,cap,cur,fr,rfl,hm,hg,hfr,hnc,hcm,hcs,htk⟩
 ·omega
 ·refine⟨g,off,cap,rfl,(Array.getElem?_eq_some_iff.1 hg).1,hm,fun j hj=>⟨?_,?_⟩⟩
  ·rw[cell_of_row w g (off+j) cur e fr hg,<- htk,List.getElem?_take,if_pos hj,List.getElem?_drop];simp
  ·have hjc:off+j<cur.size:=by
    have:=Nat.mul_le_mul_right size hnc;omega
   obtain⟨lo,hi⟩:=fr;simp only[World.frozen?,hg];unfold xg at hfr;simp only at hfr;rw[Bool.and_eq_false_iff];rcases Nat.lt_or_ge (off+j) lo with h|h
   ·exact .inl (by simp;omega)
   ·exact .inr (by simp;omega)
theorem stored {g off cap:Nat} (h:RT w t τ e size (.slice (some ⟨g,off,none⟩) n cap) n xs) (hs:S τ) (j:Nat) (_hj:j<n*size) (u:Value):
 RT (w.setCell ⟨g,off+j,none⟩ u) t τ e size (.slice (some ⟨g,off,none⟩) n cap) n (xs.set j u)/\ Stp S w t (w.setCell ⟨g,off+j,none⟩ u) t:=by
 rcases h.2 with⟨h',_⟩| ⟨g',off',cap',cur,fr,h',hm,hg,hfr,hnc,hcm,hcs,htk⟩
 ·simp at h'
 ·simp only[Value.slice.injEq,Option.some.injEq,Addr.mk.injEq,and_true,true_and]at h'
  obtain⟨⟨rfl,rfl⟩,rfl⟩:=h';refine⟨⟨by simpa using h.1,.inr ⟨g,off,cap,cur.setIfInBounds (off+j) u,fr,rfl,hm,?_,by simpa using hfr,hnc,hcm,by simpa using hcs,?_⟩⟩,⟨(Fr.refl _ _).setCell (p:=⟨g,off+j,none⟩) (.inl (show S (t g) by rw[hm];exact hs)) u,fun _ _=>rfl⟩⟩
  ·simp[World.setCell,Array.getElem?_modify,hg]
  ·rw[Array.toList_setIfInBounds,<- htk,List.drop_set,if_neg (by omega),List.take_set,Nat.add_sub_cancel_left]
theorem from_ {A:Option Addr} {c:Nat} (h:RT w t τ e size (.slice A n c) n xs) {k:Nat} (hk:k<= n):RT w t τ e size (.slice (if c=k then A else A.map (·.add (k*size))) (n-k) (c-k)) (n-k) (xs.drop (k*size)):=by
 refine⟨by rw[List.length_drop,h.1,Nat.sub_mul],?_⟩
 rcases h.2 with⟨h',rfl⟩| ⟨g,off,cap,cur,fr,h',hm,hg,hfr,hnc,hcm,hcs,htk⟩
 ·injection h' with h1 _ h2
  subst h1;subst h2;left;simp
 ·injection h' with h1 _ h2
  subst h1;subst h2;right;by_cases hck:c=k
  ·obtain rfl:n=k:=by omega
   subst hck;refine⟨g,off,0,cur,fr,by simp,hm,hg,hfr,by simp,Nat.zero_le _,by have:=hcs;omega,?_⟩
   rw[Nat.sub_self,Nat.zero_mul,List.take_zero,List.drop_of_length_le (by rw[h.1];exact Nat.le_refl _)]
  ·refine⟨g,off+k*size,c-k,cur,fr,by rw[if_neg hck];simp[gu],hm,hg,hfr,by omega,by omega,?_,?_⟩
   ·have:k*size+(c-k)*size=c*size:=by rw[<- Nat.add_mul];congr 1;omega
    omega
   ·rw[<- htk,List.drop_take,List.drop_drop,Nat.sub_mul]
end RT
theorem tY {P:Program} (w:World) (t:Nat-> Nat) (τ:Nat) (st xt ty e:TypeId) (i:TypeInfo) (z:Value) (size bytes:Nat) (ht:P.underlying st=some (.slice e))
 (hxt:P.underlying xt=some (.slice e)\/ P.underlying xt=some .string) (hi:P.info? e=some i) (hz:i.zero=some z)
 (hsize:i.size=size) (hby:i.bytes=bytes) (hzs:z.cells.size=size)
 (v:Value) (n:Nat) (xs:List Value) (hown:RT w t τ e size v n xs) (x:Value) (m:Nat) (news:List Value) (hx:Src P w size x m news)
 (h63:n+m<= maxLen) (hbytes:(n+m)*bytes<= 140737488355328):
 ∃v' w',(Builtin.append_ #[st,xt] ty #[v,x]).run P w= .ok v' w'/\ RT w' (upT t w τ) τ e size v' (n+m) (xs++news)/\ ∀S:Nat-> Prop,S τ-> Stp S w t w' (upT t w τ):=by
 subst hsize;subst hby;have hsmall: ¬(9223372036854775807< (n:Int)+(m:Int)):=by simp only[maxLen]at h63;omega
 have hlen:(xs++news).length=(n+m)*i.size:=by rw[List.length_append,hown.1,hx.long,Nat.add_mul]
 have hl:=hx.len;have hh:=hx.here;have hd:=hx.drew;have grown: ∀(old:Nat),old<n+m->
  RT (w.drew.alloc (.cells (xs.toArray++news.toArray++Builtin.zeroCells z.cells (grownCap w (n+m) old e- (n+m))) e)) (upT t w τ) τ e i.size
   (.slice (some ⟨w.heap.size,0,none⟩) (n+m) (grownCap w (n+m) old e)) (n+m) (xs++news)/\
  ∀S:Nat-> Prop,S τ-> Stp S w t (w.drew.alloc (.cells (xs.toArray++news.toArray++Builtin.zeroCells z.cells (grownCap w (n+m) old e- (n+m))) e)) (upT t w τ):=by
  intro old ho;have hge:=grownCap_ge w (n+m) old e;have hcm:grownCap w (n+m) old e<= maxLen:=grownCap_le_maxLen w (n+m) old e h63;refine⟨⟨hlen,.inr ⟨w.heap.size,0,_,_,(0,0),rfl,iO (Nat.le_refl _),heap_alloc_new w.drew _,.inl (Nat.le_refl _),hge,hcm,?_,?_⟩⟩,fun S _=>⟨((Fr.refl _ w).drew).alloc _,fun k hk=>iq hk⟩⟩
  ·simp only[Array.size_append,List.size_toArray,size_zeroCells,hzs,hown.1,hx.long,<- Nat.add_mul,Nat.zero_add]
   rw[show n+m+(grownCap w (n+m) old e- (n+m))=grownCap w (n+m) old e by omega]
   exact Nat.le_refl _
  ·simp only[Array.toList_append,List.append_assoc,List.drop_zero]
   rw[<- List.append_assoc,<- hlen];exact List.take_left
 rcases hown.2 with⟨rfl,rfl⟩| ⟨g,off,cap,cur,fr,rfl,hm,hg,hfr,hnc,hcm,hcs,htake⟩
 ·have hx0:xs= []:=List.eq_nil_of_length_eq_zero (by simpa using hown.1)
  subst hx0;by_cases hm:m=0
  ·subst hm
   have hn:news= []:=List.eq_nil_of_length_eq_zero (by simpa using hx.long)
   subst hn;refine⟨.slice none 0 0,w,?_,RT.nil w _ τ e i.size,fun S _=>⟨Fr.refl _ _,fun k hk=>iq hk⟩⟩
   rcases hxt with h|h<;>simp[Builtin.append_,run_underlying ht,run_underlying h,sizeOf,typeInfo,hi,hl,hh]
  ·have h48': ¬(281474976710656<Builtin.nextslicecap m 0*i.bytes):=by rw[nextslicecap_zero (by omega)];simp only[Nat.zero_add]at hbytes;omega
   have hgr:=grown 0 (by omega)
   simp only[Nat.zero_add,List.nil_append,Array.empty_append]at hgr hsmall⊢;have hs': ¬(9223372036854775807< (m:Int)):=by simp at hsmall;omega
   refine⟨_,_,?_,hgr.1,hgr.2⟩;rcases hxt with h|h<;>simp[Builtin.append_,run_underlying ht,run_underlying h,sizeOf,typeInfo,zeroValue,hi,hz,hl,hd,hm,hs',h48',Question.forced,run_firstCells_none,newRow,grownCap]
 ·by_cases hroom:n+m<= cap
  ·have hfit:off+n*i.size+news.length<= cur.size:=by
    have h1:=Nat.mul_le_mul_right i.size hroom;rw[Nat.add_mul,<- hx.long]at h1;omega
   have hst:=iL P g (off+n*i.size) e fr news 0 cur w hg hfr (by simpa using hfit) hx.one
   simp only[Nat.add_zero]at hst
   refine⟨.slice (some ⟨g,off,none⟩) (n+m) cap,w.setRow g (cur.toList.take (off+n*i.size)++news++cur.toList.drop (off+n*i.size+news.length)).toArray,?_,
    ⟨hlen,.inr ⟨g,off,cap,_,fr,rfl,?_,setRow_heap w g cur _ e _ hg,?_,hroom,hcm,?_,?_⟩⟩,fun S hS=>⟨⟨rfl,rfl,rfl,by simp[World.setRow],fun k hk hs=>setRow_other w g k _ (fun e=>hs (by subst e;rw[hm];exact hS))⟩,fun k hk=>iq hk⟩⟩
   ·rcases hxt with h|h<;>simp[Builtin.append_,run_underlying ht,run_underlying h,sizeOf,typeInfo,hi,hl,hh,hroom,gu,hst]
   ·rw[iq (Array.getElem?_eq_some_iff.1 hg).1];exact hm
   ·simp only[List.size_toArray,List.length_append,List.length_take,List.length_drop,Array.length_toList]
    rw[show min (off+n*i.size) cur.size+news.length+(cur.size- (off+n*i.size+news.length))=cur.size by omega]
    exact hfr
   ·simp only[List.size_toArray,List.length_append,List.length_take,List.length_drop,Array.length_toList]
    omega
   ·have hle:off+n*i.size<= cur.toList.length:=by simp;omega
    have htl:(cur.toList.take (off+n*i.size)).drop off=xs:=by
     rw[List.drop_take,Nat.add_sub_cancel_left,htake]
    have hd9:((cur.toList.take (off+n*i.size)++news++cur.toList.drop (off+n*i.size+news.length)).toArray.toList.drop off)=xs++news++cur.toList.drop (off+n*i.size+news.length):=by
     rw[List.toList_toArray,List.append_assoc,List.drop_append_of_le_length (by rw[List.length_take];omega),htl,List.append_assoc]
    rw[hd9,<- hlen];exact List.take_left
  ·have hn': ¬(n+m<= cap):=hroom
   have h48': ¬(281474976710656<Builtin.nextslicecap (n+m) cap*i.bytes):=by have:=growslice_fits (need:=n+m) (old:=cap) (by omega) hbytes;omega
   have hold:(Builtin.firstCells i.size n (.slice (some ⟨g,off,none⟩) n cap)).run P w.drew= .ok xs.toArray w.drew:=by
    refine run_firstCells_some w.drew i.size n ⟨g,off,none⟩ n cap xs hown.1 (fun j u hu=> ?_)
    rw[gu];show w.cell? ⟨g,off+j,none⟩=some u;rw[cell_of_row w g (off+j) cur e fr hg];rw[<- htake,List.getElem?_take]at hu;split at hu
    ·rw[List.getElem?_drop]at hu;simpa using hu
    ·cases hu
   have hgr:=grown cap (by omega)
   refine⟨_,_,?_,hgr.1,hgr.2⟩;rcases hxt with h|h<;>simp[Builtin.append_,run_underlying ht,run_underlying h,sizeOf,typeInfo,zeroValue,hi,hz,hl,hd,hn',hsmall,h48',hold,Question.forced,newRow,grownCap]
   all_goals (congr 2;apply Array.ext';simp)
theorem xu {P:Program} (w:World) {ops:Array Oper} {rest:List Oper} {o:Oper} {a:Act} {Q:Exit-> Act-> World-> Prop} (hgd:o.guard=none) (s x:Operand) (st xt:TypeId)
 (ho:o.op= .call { callee:=.builtin .append,args:=#[s,x],argTypes:=#[st,xt] })
 (t:Nat-> Nat) (τ:Nat) (e:TypeId) (i:TypeInfo) (z:Value) (size bytes:Nat) (ht:P.underlying st=some (.slice e)) (hxt:P.underlying xt=some (.slice e)\/ P.underlying xt=some .string) (hi:P.info? e=some i) (hz:i.zero=some z)
 (hsize:i.size=size) (hby:i.bytes=bytes) (hzs:z.cells.size=size)
 (v:Value) (n:Nat) (xs:List Value) (hs:a.eval s=v) (hown:RT w t τ e size v n xs) (xv:Value) (m:Nat) (news:List Value) (hx:a.eval x=xv) (hr:Src P w size xv m news)
 (h63:n+m<= maxLen) (hbytes:(n+m)*bytes<= 140737488355328)
 (h: ∀v' w',RT w' (upT t w τ) τ e size v' (n+m) (xs++news)->(∀S:Nat-> Prop,S τ-> Stp S w t w' (upT t w τ))-> wpList P ops Q rest (a.put o.dst v') w'):wpList P ops Q (o::rest) a w:=
 wpList_plain hgd fun K hK=>by
  obtain⟨v',w',hrun,h2,h3⟩:=tY (P:=P) w t τ st xt o.type e i z size bytes ht hxt hi hz hsize hby hzs v n xs hown xv m news hr h63 hbytes;unfold Oper.wp execOp;simp only[ho,resolve,invoke,builtin,Sem.run_bind,Sem.run_pure,Result.andThen_ok,List.map_toArray,List.map_cons,List.map_nil,hs,hx,hrun];exact hK _ _ (h v' w' h2 h3)
section
variable {w w':World} {t t':Nat-> Nat} {τ g n:Nat} {v:Value} {S:Nat-> Prop}
theorem BT.cells {T:TypeId} {cs:Array Value} (h:BT w t τ g T cs):(∀i,w.cell? ⟨g,i,none⟩=cs[i]?)/\ ∀i,w.frozen? ⟨g,i,none⟩=false:=⟨h.b.cell,h.b.frozen⟩
theorem Stp.below (h:Below w.heap.size w w') (S:Nat-> Prop) (t:Nat-> Nat):Stp S w t w' t:=⟨(Fr.dB h).mono fun _i hi=>.inr hi,fun _ _=>rfl⟩
theorem BT.ah {T:TypeId} {cs:Array Value} (h:BT w t τ g T cs) (hb:Below w.heap.size w w'):BT w' t τ g T cs:=h.keep (Stp.below hb (fun _=>False) t) id
theorem RT.ah {e:TypeId} {size:Nat} {xs:List Value} (h:RT w t τ e size v n xs) (hb:Below w.heap.size w w'):RT w' t τ e size v n xs:=h.keep (Stp.below hb (fun _=>False) t) id
theorem BT.aH {T:TypeId} {cs:Array Value} (h:BT w t τ g T cs) (i:Nat) (u:Value):BT (w.setCell ⟨g,i,none⟩ u) t τ g T (cs.setIfInBounds i u)/\ Stp (fun x=>x=τ) w t (w.setCell ⟨g,i,none⟩ u) t:=⟨h.ay i u,Stp.setCell (S:=fun x=>x=τ) h rfl i u⟩
theorem BT.new' (w:World) (t:Nat-> Nat) (τ g:Nat) (hg:g=w.heap.size) (T:TypeId) (cs:Array Value):BT (w.alloc (.cells cs T)) (upT t w τ) τ g T cs:=hg▸BT.new w t τ T cs
theorem BT.to {T:TypeId} {cs cs':Array Value} (h:BT w t τ g T cs) (e:cs=cs'):BT w t τ g T cs':=e▸h
theorem RT.to {e:TypeId} {size n':Nat} {xs:List Value} (h:RT w t τ e size v n xs) (hn:n=n'):RT w t τ e size v n' xs:=hn▸h
theorem BT.ne {T T':TypeId} {g':Nat} {cs cs':Array Value} (a:BT w t τ g T cs) {τ':Nat} (b:BT w t τ' g' T' cs') (h:τ≠τ'):g≠g':=fun e=>h (by rw[<- a.m,<- b.m,e])
theorem Stp.alloc (w:World) (t:Nat-> Nat) (S:Nat-> Prop) (o:Obj) (τ:Nat):Stp S w t (w.alloc o) (upT t w τ):=⟨(Fr.refl _ w).alloc _,fun _ hk=>iq hk⟩
theorem xw {ops:Array Oper} {rest:List Oper} {o:Oper} {a:Act} {Q:Exit-> Act-> World-> Prop} (hgd:o.guard=none) (s x:Operand) (st xt:TypeId)
 (ho:o.op= .call { callee:=.builtin .append,args:=#[s,x],argTypes:=#[st,xt] })
 (e:TypeId) (z:Value) (size bytes:Nat) (ht:Tryz.prog.underlying st=some (.slice e)) (hxt:Tryz.prog.underlying xt=some (.slice e)\/ Tryz.prog.underlying xt=some .string)
 (hi:(Tryz.prog.info? e).map (fun i=>(i.zero,i.size,i.bytes))=some (some z,size,bytes)) (hzs:z.cells.size=size)
 (t:Nat-> Nat) (τ:Nat) (v:Value) (n:Nat) (xs:List Value) (hs:a.eval s=v) (hown:RT w t τ e size v n xs) (xv:Value) (m:Nat) (news:List Value) (hx:a.eval x=xv) (hr:Src Tryz.prog w size xv m news)
 (hn:(n+m)*(bytes+1)<= 140737488355328)
 (h: ∀v' w' t',RT w' t' τ e size v' (n+m) (xs++news)->(∀S:Nat-> Prop,S τ-> Stp S w t w' t')-> wpList Tryz.prog ops Q rest (a.put o.dst v') w'):wpList Tryz.prog ops Q (o::rest) a w:=by
 obtain⟨i0,hi0,hz0,hz1,hz2⟩:=info_parts hi;rw[Nat.mul_add,Nat.mul_one]at hn;exact xu w hgd s x st xt ho t τ e i0 z size bytes ht hxt hi0 hz0 hz1 hz2 hzs v n xs hs hown xv m news hx hr (by unfold maxLen;omega) (by omega) fun v' w' h1 h2=>h v' w' _ h1 h2
theorem qy {ops:Array Oper} {rest:List Oper} {o:Oper} {a:Act} {Q:Exit-> Act-> World-> Prop} (hgd:o.guard=none) (s x:Operand) (st:TypeId)
 (ho:o.op= .call { callee:=.builtin .append,args:=#[s,x],argTypes:=#[st,st] })
 (e:TypeId) (z:Value) (size bytes:Nat) (ht:Tryz.prog.underlying st=some (.slice e))
 (hi:(Tryz.prog.info? e).map (fun i=>(i.zero,i.size,i.bytes))=some (some z,size,bytes)) (hzs:z.cells.size=size)
 (t:Nat-> Nat) (τ:Nat) (v:Value) (n:Nat) (xs:List Value) (hs:a.eval s=v) (hown:RT w t τ e size v n xs) (cs:List Value) (g:Nat) (hg:g=w.heap.size) (hx:a.eval x= .slice (some ⟨g,0,none⟩) 1 1)
 (hcs:cs.length=size) (h1: ∀u∈cs,u.oneCell'=true) (hn:(n+1)*(bytes+1)<= 140737488355328)
 (h: ∀v' w' t',RT w' t' τ e size v' (n+1) (xs++cs)->(∀S:Nat-> Prop,S τ-> Stp S w t w' t')-> wpList Tryz.prog ops Q rest (a.put o.dst v') w'):wpList Tryz.prog ops Q (o::rest) a (w.alloc (.cells cs.toArray e)):=by
 subst hg;have hst:Stp (fun _=>False) w t (w.alloc (.cells cs.toArray e)) (upT t w τ):=Stp.alloc w t _ _ τ
 refine xw hgd s x st st ho e z size bytes ht (.inl ht) hi hzs (upT t w τ) τ v n xs hs (hown.keep hst (fun h=>h)) _ 1 cs hx (Src.fB (Rd.new w _ rfl cs e 1 size (by omega)) h1) hn fun v' w' t' h2 h3=>h v' w' t' h2 fun S hS=> ?_
 exact(hst.mono (fun _ h=>h.elim)).trans (h3 S hS) fun _ h=>h
theorem rC {ops:Array Oper} {o:Oper} {a:Act} {K:Act-> World-> Prop} {Q:Exit-> Act-> World-> Prop} {E:Prop} (hgd:o.guard=none) (s x:Operand) (st xt:TypeId)
 (ho:o.op= .call { callee:=.builtin .append,args:=#[s,x],argTypes:=#[st,xt] })
 (e:TypeId) (z:Value) (size bytes:Nat) (ht:Tryz.prog.underlying st=some (.slice e)) (hxt:Tryz.prog.underlying xt=some (.slice e)\/ Tryz.prog.underlying xt=some .string)
 (hi:(Tryz.prog.info? e).map (fun i=>(i.zero,i.size,i.bytes))=some (some z,size,bytes)) (hzs:z.cells.size=size)
 (t:Nat-> Nat) (τ:Nat) (v:Value) (n:Nat) (xs:List Value) (hs:a.eval s=v) (hown:RT w t τ e size v n xs) (xv:Value) (m:Nat) (news:List Value) (hx:a.eval x=xv) (hr:Src Tryz.prog w size xv m news)
 (hn:(n+m)*(bytes+1)<= 140737488355328)
 (h: ∀v' w' t',RT w' t' τ e size v' (n+m) (xs++news)->(∀S:Nat-> Prop,S τ-> Stp S w t w' t')-> K (a.put o.dst v') w'):
 if Region.wanted o (yielded ops a.tmps)=true then Oper.wp Tryz.prog o a w K Q else E:=by
 have hwt:Region.wanted o (yielded ops a.tmps)=true:=by simp[Region.wanted,hgd]
 rw[if_pos hwt];obtain⟨i0,hi0,hz0,hz1,hz2⟩:=info_parts hi;rw[Nat.mul_add,Nat.mul_one]at hn;obtain⟨v',w',hrun,h2,h3⟩:=tY (P:=Tryz.prog) w t τ st xt o.type e i0 z size bytes ht hxt hi0 hz0 hz1 hz2 hzs v n xs hown xv m news hr (by unfold maxLen;omega) (by omega)
 unfold Oper.wp execOp;simp only[ho,resolve,invoke,builtin,Sem.run_bind,Sem.run_pure,Result.andThen_ok,List.map_toArray,List.map_cons,List.map_nil,hs,hx,hrun];exact h v' w' _ h2 h3
theorem mV {ops:Array Oper} {o:Oper} {a:Act} {K:Act-> World-> Prop} {Q:Exit-> Act-> World-> Prop} {E:Prop} (hgd:o.guard=none) (s x:Operand) (st:TypeId)
 (ho:o.op= .call { callee:=.builtin .append,args:=#[s,x],argTypes:=#[st,st] })
 (e:TypeId) (z:Value) (size bytes:Nat) (ht:Tryz.prog.underlying st=some (.slice e))
 (hi:(Tryz.prog.info? e).map (fun i=>(i.zero,i.size,i.bytes))=some (some z,size,bytes)) (hzs:z.cells.size=size)
 (t:Nat-> Nat) (τ:Nat) (v:Value) (n:Nat) (xs:List Value) (hs:a.eval s=v) (hown:RT w t τ e size v n xs) (cs:List Value) (g:Nat) (hg:g=w.heap.size) (hx:a.eval x= .slice (some ⟨g,0,none⟩) 1 1)
 (hcs:cs.length=size) (h1: ∀u∈cs,u.oneCell'=true) (hn:(n+1)*(bytes+1)<= 140737488355328)
 (h: ∀v' w' t',RT w' t' τ e size v' (n+1) (xs++cs)->(∀S:Nat-> Prop,S τ-> Stp S w t w' t')-> K (a.put o.dst v') w'):
 if Region.wanted o (yielded ops a.tmps)=true then Oper.wp Tryz.prog o a (w.alloc (.cells cs.toArray e)) K Q else E:=by
 subst hg;have hst:Stp (fun _=>False) w t (w.alloc (.cells cs.toArray e)) (upT t w τ):=Stp.alloc w t _ _ τ
 refine rC hgd s x st st ho e z size bytes ht (.inl ht) hi hzs (upT t w τ) τ v n xs hs (hown.keep hst (fun h=>h)) _ 1 cs hx (Src.fB (Rd.new w _ rfl cs e 1 size (by omega)) h1) hn fun v' w' t' h2 h3=>h v' w' t' h2 fun S hS=> ?_
 exact(hst.mono (fun _ h=>h.elim)).trans (h3 S hS) fun _ h=>h
theorem kQ {ops:Array Oper} {o:Oper} {a:Act} {K:Act-> World-> Prop} {Q:Exit-> Act-> World-> Prop} {E:Prop} (hgd:o.guard=none) (s x:Operand) (st:TypeId)
 (ho:o.op= .call { callee:=.builtin .append,args:=#[s,x],argTypes:=#[st,st] })
 (e:TypeId) (z:Value) (size bytes:Nat) (ht:Tryz.prog.underlying st=some (.slice e))
 (hi:(Tryz.prog.info? e).map (fun i=>(i.zero,i.size,i.bytes))=some (some z,size,bytes)) (hzs:z.cells.size=size)
 (t:Nat-> Nat) (τ:Nat) (v:Value) (n:Nat) (xs:List Value) (hs:a.eval s=v) (hown:RT w t τ e size v n xs) (cs:List Value) (g:Nat) (hg:g=w.heap.size) (hx:a.eval x= .slice (some ⟨g,0,none⟩) 1 1)
 (hcs:cs.length=size) (h1: ∀u∈cs,u.oneCell'=true) (hn:(n+1)*(bytes+1)<= 140737488355328)
 (h: ∀v' w' t',RT w' t' τ e size v' (n+1) (xs++cs)->(∀S:Nat-> Prop,S τ-> Stp S w t w' t')-> K (a.put o.dst v') w'):
 if Region.wanted o (yielded ops a.tmps)=true then Oper.wp Tryz.prog o a (w.alloc (.cells cs.toArray e)).drew K Q else E:=by
 subst hg;have hst:Stp (fun _=>False) w t (w.alloc (.cells cs.toArray e)).drew (upT t w τ):=(Stp.alloc w t _ _ τ).drew
 refine rC hgd s x st st ho e z size bytes ht (.inl ht) hi hzs (upT t w τ) τ v n xs hs (hown.keep hst (fun h=>h)) _ 1 cs hx (Src.fB (Rd.new w _ rfl cs e 1 size (by omega)).drew h1) hn fun v' w' t' h2 h3=>h v' w' t' h2 fun S hS=> ?_
 exact(hst.mono (fun _ h=>h.elim)).trans (h3 S hS) fun _ h=>h
theorem RT.iI {e T:TypeId} {size n c:Nat} {A:Option Addr} {xs:List Value} (hu:Tryz.prog.underlying T=some (.slice (Tryz.prog.elem T))) (hz: ∀w:World,(sizeOf (Tryz.prog.elem T)).run Tryz.prog w= .ok size w) (h:RT w t τ e size (.slice A n c) n xs) (k:Nat) (hk:k<= n):
 ∃A' c',(∀w:World,(Instr.sliceAt T (.slice A n c) (some (.int .i64 (k:Int))) none none).run Tryz.prog w= .ok (.slice A' (n-k) c') w)/\ RT w t τ e size (.slice A' (n-k) c') (n-k) (xs.drop (k*size)):=by
 obtain⟨A1,c1,e1,hnc,hcm,-,-⟩:=h.form;injection e1 with e2 _ e3
 subst e2 e3;refine⟨_,_,fun w=> ?_,h.from_ hk⟩
 rw[run_sliceAt_slice w T _ _ _ _ hu,run_slice_l w T A n c hu .i64 k (by omega) (by omega),hz]
 simp[Result.andThen,sliced]
end
end Go.Proofs.YtdmondfpepbniaaGreatDoor
