/- Part 41 of the proof: VhD RsP. -/
import Derived.Test.YtdmondfpepbniaaGreatDoorQ36
namespace Go.Proofs.YtdmondfpepbniaaGreatDoor
open Go.RowKit
set_option maxRecDepth 100000
set_option maxHeartbeats 4000000
set_option linter.all false
theorem Stp.toBelow {w w':World} {t t':Nat-> Nat} (s:Stp (fun _=>False) w t w' t'):Below w.heap.size w w':=⟨s.fr.os,s.fr.tape,s.fr.output,s.fr.size,fun k hk=>s.fr.block k hk id⟩
theorem Zw (w:World) (t:Nat-> Nat) (m:Nat) (cf:Cf) (tv:Value) (gs gr now:Nat) (hg:GL w t) (hm:1<= m) (hc:GY cf) (hr:jo w t (m+8) gr []) (hn:now<= 1000000):
 Calls Tryz.prog 242 #[.agg (cfC cf tv).toArray,pV gs,pV gr,nV now] w fun e w'=> ∃g,e= .returned (.tuple #[pV g,.int .i64 0])/\ ∃t',dK w' t' m g cf tv gs (cn0 now)/\ Stp (fun _=>False) w t w' t':=by
 have hG:=fun W tW=>Om W tW 9 cf tv hc
 have hmk: ∀w:World,(Instr.makeMap 129 none).run Tryz.prog w= .ok (.map (some w.heap.size)) (w.alloc (.map #[] 0)):=fun _=>rfl
 have hn0: ¬(now:Int)<0:=by omega
 go_enter Tryz.func242,Tryz.ntmps242
 go_upto_region 1 with(fail)
 have s0:Stp (fun _=>False) w t (w.alloc (.cells (cfC cf tv).toArray 25)) (upT t w 9):=Stp.alloc w t _ _ _
 have BV:=BT.new' w t 9 w.heap.size rfl 25 (cfC cf tv).toArray;obtain⟨V,hV⟩: ∃V,V=w.alloc (.cells (cfC cf tv).toArray 25):=⟨_,rfl⟩;rw[<- hV]at s0 BV⊢;clear hV;generalize upT t w 9=t1 at*;have k0:V.cell? ⟨w.heap.size,0,none⟩=some (nV cf.jE):=BV.b.cell 0;have k1:V.cell? ⟨w.heap.size,1,none⟩=some (nV cf.jF):=BV.b.cell 1;have k2:V.cell? ⟨w.heap.size,2,none⟩=some (nV cf.pipe):=BV.b.cell 2;have k3:V.cell? ⟨w.heap.size,3,none⟩=some (nV cf.jg):=BV.b.cell 3;have k4:V.cell? ⟨w.heap.size,4,none⟩=some (nV cf.idle):=BV.b.cell 4;have k5:V.cell? ⟨w.heap.size,5,none⟩=some (nV cf.head):=BV.b.cell 5;have k6:V.cell? ⟨w.heap.size,6,none⟩=some (nV cf.body):=BV.b.cell 6;have k7:V.cell? ⟨w.heap.size,7,none⟩=some (nV cf.write):=BV.b.cell 7;have k8:V.cell? ⟨w.heap.size,8,none⟩=some (nV cf.bC):=BV.b.cell 8;have k9:V.cell? ⟨w.heap.size,9,none⟩=some (nV cf.jR):=BV.b.cell 9;have k10:V.cell? ⟨w.heap.size,10,none⟩=some (nV cf.gJ):=BV.b.cell 10;have k11:V.cell? ⟨w.heap.size,11,none⟩=some (nV cf.base):=BV.b.cell 11;have k12:V.cell? ⟨w.heap.size,12,none⟩=some (nV cf.cap):=BV.b.cell 12;have k13:V.cell? ⟨w.heap.size,13,none⟩=some (.bool cf.refuse):=BV.b.cell 13;have k14:V.cell? ⟨w.heap.size,14,none⟩=some (.bool cf.dV):=BV.b.cell 14;have k15:V.cell? ⟨w.heap.size,15,none⟩=some (tv):=BV.b.cell 15;go_wp2_with fail
 refine(hG V t1).mono ?_;rintro e W ⟨g9,t2,rfl,-,-,s2⟩;have BW:=BV.keep s2 id;have sA:=s0.trans s2 fun _ h=>h
 clear k0 k1 k2 k3 k4 k5 k6 k7 k8 k9 k10 k11 k12 k13 k14 k15 BV s0 s2 hG;have hg2:=hg.keep sA id;have hr2:=hr.keep sA id id;have n0:W.cell? ⟨w.heap.size,0,none⟩=some (nV cf.jE):=BW.b.cell 0;have n1:W.cell? ⟨w.heap.size,1,none⟩=some (nV cf.jF):=BW.b.cell 1;have n2:W.cell? ⟨w.heap.size,2,none⟩=some (nV cf.pipe):=BW.b.cell 2;have n3:W.cell? ⟨w.heap.size,3,none⟩=some (nV cf.jg):=BW.b.cell 3;have n4:W.cell? ⟨w.heap.size,4,none⟩=some (nV cf.idle):=BW.b.cell 4;have n5:W.cell? ⟨w.heap.size,5,none⟩=some (nV cf.head):=BW.b.cell 5;have n6:W.cell? ⟨w.heap.size,6,none⟩=some (nV cf.body):=BW.b.cell 6;have n7:W.cell? ⟨w.heap.size,7,none⟩=some (nV cf.write):=BW.b.cell 7;have n8:W.cell? ⟨w.heap.size,8,none⟩=some (nV cf.bC):=BW.b.cell 8;have n9:W.cell? ⟨w.heap.size,9,none⟩=some (nV cf.jR):=BW.b.cell 9;have n10:W.cell? ⟨w.heap.size,10,none⟩=some (nV cf.gJ):=BW.b.cell 10;have n11:W.cell? ⟨w.heap.size,11,none⟩=some (nV cf.base):=BW.b.cell 11;have n12:W.cell? ⟨w.heap.size,12,none⟩=some (nV cf.cap):=BW.b.cell 12;have n13:W.cell? ⟨w.heap.size,13,none⟩=some (.bool cf.refuse):=BW.b.cell 13;have n14:W.cell? ⟨w.heap.size,14,none⟩=some (.bool cf.dV):=BW.b.cell 14;have n15:W.cell? ⟨w.heap.size,15,none⟩=some (tv):=BW.b.cell 15;go_upto_region 4 with(fail)
 have hcl: ∀X:World,Below W.heap.size W X-> Below W.heap.size W X/\ X.cell? ⟨w.heap.size,0,none⟩=some (nV cf.jE)/\ X.cell? ⟨w.heap.size,1,none⟩=some (nV cf.jF)/\ X.cell? ⟨w.heap.size,2,none⟩=some (nV cf.pipe)/\ X.cell? ⟨w.heap.size,3,none⟩=some (nV cf.jg)/\ X.cell? ⟨w.heap.size,4,none⟩=some (nV cf.idle)/\ X.cell? ⟨w.heap.size,5,none⟩=some (nV cf.head)/\ X.cell? ⟨w.heap.size,6,none⟩=some (nV cf.body)/\ X.cell? ⟨w.heap.size,7,none⟩=some (nV cf.write)/\ X.cell? ⟨w.heap.size,8,none⟩=some (nV cf.bC)/\ X.cell? ⟨w.heap.size,9,none⟩=some (nV cf.jR)/\ X.cell? ⟨w.heap.size,10,none⟩=some (nV cf.gJ)/\ X.cell? ⟨w.heap.size,11,none⟩=some (nV cf.base)/\ X.cell? ⟨w.heap.size,12,none⟩=some (nV cf.cap)/\ X.cell? ⟨w.heap.size,13,none⟩=some (.bool cf.refuse)/\ X.cell? ⟨w.heap.size,14,none⟩=some (.bool cf.dV)/\ X.cell? ⟨w.heap.size,15,none⟩=some (tv):=fun X L=>
  ⟨L,(BW.b.ah L).cell 0,(BW.b.ah L).cell 1,(BW.b.ah L).cell 2,(BW.b.ah L).cell 3,(BW.b.ah L).cell 4,(BW.b.ah L).cell 5,(BW.b.ah L).cell 6,(BW.b.ah L).cell 7,(BW.b.ah L).cell 8,(BW.b.ah L).cell 9,(BW.b.ah L).cell 10,(BW.b.ah L).cell 11,(BW.b.ah L).cell 12,(BW.b.ah L).cell 13,(BW.b.ah L).cell 14,(BW.b.ah L).cell 15⟩
 have S0:=hcl W (Below.refl _ _);have Sd:=hcl W.drew (Below.refl _ _).drew;have Sm:=hcl _ (aj (Below.refl W.heap.size W) (.map #[] 0));have Sn:=hcl _ (aj (Below.refl W.heap.size W) (.map #[] 0)).drew;have zm:=(Stp.alloc W t2 (fun _=>False) (.map #[] 0) (m+13)).drew
 have zd:=(Stp.refl (fun _=>False) W t2).drew
 have mm:=MT.new W t2 (m+13) nV nOk Value.bool;have hO1:=Ol W.drew t2 (m+1);have hO2:=Ol ((W.alloc (.map #[] 0)).drew) (upT t2 W (m+13)) (m+1);go_region_held3 (fun X=>Below W.heap.size W X/\ X.cell? ⟨w.heap.size,0,none⟩=some (nV cf.jE)/\ X.cell? ⟨w.heap.size,1,none⟩=some (nV cf.jF)/\ X.cell? ⟨w.heap.size,2,none⟩=some (nV cf.pipe)/\ X.cell? ⟨w.heap.size,3,none⟩=some (nV cf.jg)/\ X.cell? ⟨w.heap.size,4,none⟩=some (nV cf.idle)/\ X.cell? ⟨w.heap.size,5,none⟩=some (nV cf.head)/\ X.cell? ⟨w.heap.size,6,none⟩=some (nV cf.body)/\ X.cell? ⟨w.heap.size,7,none⟩=some (nV cf.write)/\ X.cell? ⟨w.heap.size,8,none⟩=some (nV cf.bC)/\ X.cell? ⟨w.heap.size,9,none⟩=some (nV cf.jR)/\ X.cell? ⟨w.heap.size,10,none⟩=some (nV cf.gJ)/\ X.cell? ⟨w.heap.size,11,none⟩=some (nV cf.base)/\ X.cell? ⟨w.heap.size,12,none⟩=some (nV cf.cap)/\ X.cell? ⟨w.heap.size,13,none⟩=some (.bool cf.refuse)/\ X.cell? ⟨w.heap.size,14,none⟩=some (.bool cf.dV)/\ X.cell? ⟨w.heap.size,15,none⟩=some (tv))
  (first|exact S0|exact Sd|exact Sm|exact Sn|exact X4|exact X5|exact X6|exact X7|exact hcl _ (aj sX.toBelow _)|exact hcl _ (aj (aj sX.toBelow _) _)|go_keep)
  (first
    | (go_at_call 280
       refine hO1.mono ?_;rintro e w4 ⟨gq,t4,rfl,hq0,hq4,s4⟩;have sW:=zd.trans s4 fun _ h=>h
       have X4:=hcl w4 sW.toBelow
       have X5:=hcl _ (aj sW.toBelow (.map #[] 0)))
    | (go_at_call 280
       refine hO2.mono ?_;rintro e w4 ⟨gq,t4,rfl,hq0,hq4,s4⟩;have sW:=zm.trans s4 fun _ h=>h
       have mm4:MT w4 t4 (m+13) W.heap.size nV nOk Value.bool []:=MT.keep (MT.drewN mm 1) s4 id
       have X4:=hcl w4 sW.toBelow)
    | (go_at_call 281
       refine(Oq w4 t4 (m+12) (hg2.keep sW id).ml).mono ?_;rintro e w6 ⟨gp,rfl,t6,hp6,s6⟩;have sX:=sW.trans s6 fun _ h=>h
       have X6:=hcl w6 sX.toBelow
       have X7:=hcl _ (aj sX.toBelow (.map #[] 0)))
    | (go_at_call 281
       refine(Oq (w4.alloc (.map #[] 0)) (upT t4 w4 (m+13)) (m+12) ((hg2.keep sW id).keep (Stp.alloc w4 t4 (fun _=>False) (.map #[] 0) (m+13)) id).ml).mono ?_
       rintro e w6 ⟨gp,rfl,t6,hp6,s6⟩;have sV:=sW.trans (Stp.alloc w4 t4 (fun _=>False) (.map #[] 0) (m+13)) fun _ h=>h
       have sX:=sV.trans s6 fun _ h=>h
       have X6:=hcl w6 sX.toBelow))
 all_goals go_wp2_with fail
 ·rename_i hH9
  clear hH9 X4 X5 X6 X7 S0 Sd Sm Sn;have zz:=Stp.alloc w6 t6 (fun _=>False) (.map #[] 0) (m+13)
  have mt:=MT.new w6 t6 (m+13) nV nOk Value.bool;have hsz:w6.heap.size+1=(w6.alloc (.map #[] 0)).heap.size:=by simp
  have zb:=Stp.alloc (w6.alloc (.map #[] 0)) (upT t6 w6 (m+13)) (fun _=>False) (.cells (uV cf tv gq gs gr gp w6.heap.size (cn0 now)) 131) m
  have bb:=BT.new' (w6.alloc (.map #[] 0)) (upT t6 w6 (m+13)) m (w6.heap.size+1) hsz 131 (uV cf tv gq gs gr gp w6.heap.size (cn0 now));have z6:=zz.trans zb fun _ h=>h
  go_ret2
  exact⟨w6.heap.size+1,rfl,_,⟨gq,gr,gp,w6.heap.size,⟨bb,(hq4.keep s6 id id id).keep z6 id id id,(hr2.keep sX id id).keep z6 id id,hp6.keep z6 id,mt.keep zb id⟩⟩,(sA.trans sX fun _ h=>h).trans z6 fun _ h=>h⟩
 ·rename_i hH9
  clear hH9 X4 X5 X6 S0 Sd Sm Sn;have mt:=(MT.new w4 t4 (m+13) nV nOk Value.bool).keep s6 id;have zb:=Stp.alloc w6 t6 (fun _=>False) (.cells (uV cf tv gq gs gr gp w4.heap.size (cn0 now)) 131) m
  have bb:=BT.new' w6 t6 m w6.heap.size rfl 131 (uV cf tv gq gs gr gp w4.heap.size (cn0 now));go_ret2
  exact⟨w6.heap.size,rfl,_,⟨gq,gr,gp,w4.heap.size,⟨bb,((hq4.keep (Stp.alloc w4 t4 (fun _=>False) (.map #[] 0) (m+13)) id id id).keep s6 id id id).keep zb id id id,(hr2.keep sX id id).keep zb id id,hp6.keep zb id,mt.keep zb id⟩⟩,(sA.trans sX fun _ h=>h).trans zb fun _ h=>h⟩
 ·rename_i hH9
  clear hH9 X4 X6 X7 S0 Sd Sm Sn;have mt:=mm4.keep s6 id;have zb:=Stp.alloc w6 t6 (fun _=>False) (.cells (uV cf tv gq gs gr gp W.heap.size (cn0 now)) 131) m
  have bb:=BT.new' w6 t6 m w6.heap.size rfl 131 (uV cf tv gq gs gr gp W.heap.size (cn0 now));go_ret2
  exact⟨w6.heap.size,rfl,_,⟨gq,gr,gp,W.heap.size,⟨bb,(hq4.keep s6 id id id).keep zb id id id,(hr2.keep sX id id).keep zb id id,hp6.keep zb id,mt.keep zb id⟩⟩,(sA.trans sX fun _ h=>h).trans zb fun _ h=>h⟩
def jq:Nat-> Bs-> Nat
 |0,_=>0
 |n+1,b=>if jW.isPrefixOf b then 25+jq n (b.drop 25)else 0
theorem Xu (n:Nat) (b:Bs) (h:jW.isPrefixOf b=true):jq (n+1) b=25+jq n (b.drop 25):=by rw[jq,if_pos h]
theorem Zx (n:Nat) (b:Bs) (h:jW.isPrefixOf b=false):jq n b=0:=by
 cases n
 ·rfl
 ·rw[jq,h];rfl
theorem Xv (p b:Bs) (h:p.isPrefixOf b=true):p.length<= b.length:=by
 obtain⟨t,rfl⟩:=List.isPrefixOf_iff_prefix.1 h;rw[List.length_append];omega
def CV:Bs:= [72,69,65,68]
def RsP.cells (x:RsP):List Value:= [.int .i64 x.r.st,.slice x.af x.r.f.length x.cf,.slice x.ab x.r.b.length x.cb,.slice x.ap x.r.p.length x.cp]
def spC:List RsP-> List Value
 | []=> []
 |x::l=>x.cells++spC l
theorem RsP.Si (x:RsP):x.cells.length=4:=rfl
theorem OL: ∀l:List RsP,(spC l).length=l.length*4
 | []=>rfl
 |x::l=>by rw[spC,List.length_append,OL l,x.Si,List.length_cons];omega
theorem OM: ∀a b:List RsP,spC (a++b)=spC a++spC b
 | [],b=>rfl
 |x::a,b=>by rw[List.cons_append,spC,spC,OM a b,List.append_assoc]
theorem Ku: ∀(l:List RsP) (k:Nat),(spC l).take (k*4)=spC (l.take k)
 | [],k=>by simp[spC]
 |x::l,0=>by simp[spC]
 |x::l,k+1=>by
  rw[List.take_succ_cons,spC,spC,List.take_append,x.Si,List.take_of_length_le (by rw[x.Si];omega),show(k+1)*4-4=k*4 by omega,Ku l k]
theorem Xw: ∀(l:List RsP) (k:Nat) (x:RsP),l[k]? = some x-> ∀j,j<4->(spC l)[k*4+j]? = x.cells[j]?
 | [],k,x,h,j,_=>by simp at h
 |y::l,0,x,h,j,hj=>by
  obtain rfl:y=x:=by simpa using h
  rw[spC,Nat.zero_mul,Nat.zero_add,List.getElem?_append_left (by rw[y.Si];exact hj)]
 |y::l,k+1,x,h,j,hj=>by
  rw[spC,List.getElem?_append_right (by rw[y.Si];omega),y.Si,show(k+1)*4+j-4=k*4+j by omega]
  exact Xw l k x (by simpa using h) j hj
theorem Xx: ∀(l:List RsP),∀u∈spC l,u.oneCell'=true
 | [],u,h=>by cases h
 |x::l,u,h=>by
  rw[spC,List.mem_append]at h;rcases h with h|h
  ·simp only[RsP.cells,List.mem_cons,List.not_mem_nil,or_false]at h
   rcases h with h|h|h|h<;>subst h<;>rfl
  ·exact Xx l u h
structure RsX (x:RsP) (X:Nat-> Prop):Prop where
 f:0<x.r.f.length-> ∀a,x.af=some a-> ¬X a.block
 b:0<x.r.b.length-> ∀a,x.ab=some a-> ¬X a.block
 p:0<x.r.p.length-> ∀a,x.ap=some a-> ¬X a.block
theorem RsX.mono {x:RsP} {X Y:Nat-> Prop} (h:RsX x X) (hs: ∀k,Y k-> X k):RsX x Y:=⟨fun h0 a ha hy=>h.f h0 a ha (hs _ hy),fun h0 a ha hy=>h.b h0 a ha (hs _ hy),fun h0 a ha hy=>h.p h0 a ha (hs _ hy)⟩
theorem RsX.or {x:RsP} {X Y:Nat-> Prop} (h:RsX x X) (k:RsX x Y):RsX x (fun i=>X i\/ Y i):=⟨fun h0 a ha hy=>hy.elim (h.f h0 a ha) (k.f h0 a ha),fun h0 a ha hy=>hy.elim (h.b h0 a ha) (k.b h0 a ha),fun h0 a ha hy=>hy.elim (h.p h0 a ha) (k.p h0 a ha)⟩
theorem RsR.off {w:World} {x:RsP} {X:Nat-> Prop} (h:RsR w x) (hX: ∀k,X k-> w.heap.size<= k):RsX x X:=⟨h.rf.off hX,h.rb.off hX,h.rp.off hX⟩
theorem RsN.out {B:Nat} {x:RsP} {X:Nat-> Prop} (h:RsN B x) (hX: ∀k,X k-> k<B):RsX x X:=
 ⟨fun _ a ha hx=>by have:=h.1 a ha;have:=hX _ hx;omega,fun _ a ha hx=>by have:=h.2.1 a ha;have:=hX _ hx;omega,fun _ a ha hx=>by have:=h.2.2 a ha;have:=hX _ hx;omega⟩
theorem RsR.fr {w w':World} {x:RsP} {S:Nat-> Prop} (h:RsR w x) (ho:RsX x S) (hf:Fr S w w'):RsR w' x:=
 ⟨(h.rf.frm (Nat.le_refl _) hf ho.f).more hf.size,(h.rb.frm (Nat.le_refl _) hf ho.b).more hf.size,(h.rp.frm (Nat.le_refl _) hf ho.p).more hf.size,h.cf,h.cb,h.cp⟩
structure RRs (w:World) (A:Option Addr) (n:Nat) (l:List RsP):Prop where
 rd:Rd w w.heap.size 4 A n (spC l)
 rq: ∀x∈l,RsR w x
namespace RRs
variable {w w':World} {A:Option Addr} {n:Nat} {l:List RsP}
theorem len (h:RRs w A n l):l.length=n:=by have:=h.rd.1;rw[OL]at this;omega
theorem ah (h:RRs w A n l) (L:Below w.heap.size w w'):RRs w' A n l:=⟨(h.rd.ah (Nat.le_refl _) L).more L.size,fun x hx=>(h.rq x hx).ah L⟩
theorem cut (h:RRs w A n l) {k:Nat} (hk:k<= n):RRs w A k (l.take k):=by
 have h1:=h.rd.zI hk;rw[Ku]at h1;exact⟨h1,fun x hx=>h.rq x (List.mem_of_mem_take hx)⟩
theorem at_ (h:RRs w A n l) {k:Nat} {x:RsP} (hx:l[k]? = some x): ∃b o,A=some ⟨b,o,none⟩/\ b<w.heap.size/\ (w.cell? ⟨b,o+k*4,none⟩=some (.int .i64 x.r.st)/\ w.cell? ⟨b,o+k*4+1,none⟩=some (.slice x.af x.r.f.length x.cf)/\ w.cell? ⟨b,o+k*4+2,none⟩=some (.slice x.ab x.r.b.length x.cb)/\ w.cell? ⟨b,o+k*4+3,none⟩=some (.slice x.ap x.r.p.length x.cp)):=by
 have hk:k<l.length:=(List.getElem?_eq_some_iff.1 hx).1;obtain⟨b,o,e,hb,hc⟩:=h.rd.2 (by rw[h.len]at hk;omega)
 have key: ∀j,j<4-> ∀u,x.cells[j]? = some u-> w.cell? ⟨b,o+k*4+j,none⟩=some u:=fun j hj u hu=>by
  have:=hc (k*4+j) u (by rw[Xw l k x hx j hj];exact hu)
  rwa [<- Nat.add_assoc]at this
 exact⟨b,o,e,hb,key 0 (by decide) _ rfl,key 1 (by decide) _ rfl,key 2 (by decide) _ rfl,key 3 (by decide) _ rfl⟩
end RRs
structure OSp (w:World) (base:Nat) (v:Value) (l:List RsP):Prop where
 o:Own w base 54 4 v l.length (spC l)
 rq: ∀x∈l,RsR w x
 out: ∀x∈l,RsX x (fun k=>v.ownBlock=some k)
namespace OSp
variable {w w':World} {base:Nat} {v v':Value} {l:List RsP}
theorem nil (w:World) (base:Nat):OSp w base (.slice none 0 0) []:=⟨Own.nil w base _ 4,fun _ h=>(by cases h),fun _ h=>(by cases h)⟩
theorem ah (h:OSp w base v l) (L:Below w.heap.size w w'):OSp w' base v l:=⟨Own.ah h.o L,fun x hx=>(h.rq x hx).ah L,h.out⟩
theorem form (h:OSp w base v l): ∃A c,v= .slice A l.length c/\ l.length<= c/\ c<= maxLen/\ RRs w A l.length l:=by
 obtain⟨A,c,h1,h2,h3,h4,-⟩:=Own.rd h.o;exact⟨A,c,h1,h2,h3,h4,h.rq⟩
theorem app {x:RsP} (h:OSp w base v l) (hx:Ext w w' v v') (ho:Own w' base 54 4 v' (l++ [x]).length (spC (l++ [x]))) (hr:RsR w x) (hn:RsX x (fun k=>v.ownBlock=some k)):OSp w' base v' (l++ [x]):=by
 have key: ∀y,RsR w y-> RsX y (fun k=>v.ownBlock=some k)-> RsR w' y/\ RsX y (fun k=>v'.ownBlock=some k):=fun y h1 h2=>
  ⟨h1.fr h2 hx.fr,(h2.or (h1.off (X:=fun k=>w.heap.size<= k) fun _ h=>h)).mono fun k hk=>hx.own k hk⟩
 refine⟨ho,fun y hy=> ?_,fun y hy=> ?_⟩
 ·rcases List.mem_append.1 hy with h9|h9
  ·exact(key y (h.rq y h9) (h.out y h9)).1
  ·obtain rfl:y=x:=by simpa using h9
   exact(key y hr hn).1
 ·rcases List.mem_append.1 hy with h9|h9
  ·exact(key y (h.rq y h9) (h.out y h9)).2
  ·obtain rfl:y=x:=by simpa using h9
   exact(key y hr hn).2
end OSp
theorem Zy:(Tryz.prog.info? 54).map (fun i=>(i.zero,i.size,i.bytes))=some (some (.agg rsZ),4,80):=by kernel_rfl
theorem Xy {ops:Array Oper} {rest:List Oper} {o:Oper} {a:Act} {Q:Exit-> Act-> World-> Prop} {w0 w:World} (hgd:o.guard=none) (s x:Operand)
 (ho:o.op= .call { callee:=.builtin .append,args:=#[s,x],argTypes:=#[49,49] })
 (base:Nat) (v:Value) (l:List RsP) (hs:a.eval s=v) (hown:OSp w0 base v l) (hw:Below w0.heap.size w0 w) (A:Option Addr) (c B:Nat) (y:RsP) (hx:a.eval x= .slice A 1 c) (hr:Rd w B 4 A 1 (spC [y])) (hy:RsR w0 y) (hn:RsX y (fun k=>v.ownBlock=some k))
 (hlen:l.length<= 1000000) (hbase:base<= w0.heap.size)
 (h: ∀v' w',OSp w' base v' (l++ [y])-> Ext w0 w' v v'-> wpList Tryz.prog ops Q rest (a.put o.dst v') w'):wpList Tryz.prog ops Q (o::rest) a w:=by
 obtain⟨i0,hi,hz0,hz1,hz2⟩:=info_parts Zy;refine aJ w hgd s x 49 49 ho base 54 i0 _ 4 80 Tryz.underlying49 (.inl Tryz.underlying49) hi hz0 hz1 hz2 rfl (by decide) v l.length _ hs (Own.ah hown.o hw) _ 1 _ hx (Src.fB hr (Xx [y])) (by unfold maxLen;omega) (by omega) (Nat.le_trans hbase hw.size) ?_
 intro v' w' ho' hg ha;have hE:=oH hw hg ha;refine h v' w' (hown.app hE ?_ hy hn) hE;rw[<- OM]at ho';rw[List.length_append,List.length_singleton];exact ho'
theorem Zz {w:World} {B n:Nat} {A:Option Addr} {l:Bs} (h:Rd w B 1 A n (l.map bv)):A=none-> l= []:=by
 intro hA;have h1:l.length=n:=by simpa using h.1
 by_cases h0:0<n
 ·obtain⟨g,o,e,-⟩:=h.2 h0
  rw[hA]at e;cases e
 ·exact List.eq_nil_of_length_eq_zero (by omega)
theorem Kv {w:World} {B n:Nat} {A:Option Addr} {l:Bs} (h:Rd w B 1 A n (l.map bv)):Lib.BytesIn w A n (l.map fun c=>(c.toNat:Int)):=by
 intro h0;obtain⟨g,o,e,-,hc⟩:=h.2 h0;have h1:l.length=n:=by simpa using h.1
 refine⟨g,o,e,fun i hi=> ?_⟩
 have hi':i<l.length:=by omega
 rw[hc i (bv l[i]) (by rw[List.getElem?_map,List.getElem?_eq_getElem hi'];rfl)]
 simp[List.getD,hi',bv]
theorem Kw (l:Bs):Lib.bytesOf (l.map fun c=>(c.toNat:Int))=l:=by
 unfold Lib.bytesOf;rw[List.map_map];refine(List.map_congr_left (g:=id) fun c _=> ?_).trans (List.map_id l)
 simp
theorem Ky (A1 A2:Option Addr) (l m:Bs) (c d:Nat) (w:World) (h1:Rd w w.heap.size 1 A1 l.length (l.map bv)) (h2:Rd w w.heap.size 1 A2 m.length (m.map bv)) (hc:l.length<= c):
 Calls Tryz.prog 32 #[.slice A1 l.length c,.slice A2 m.length d] w fun e w'=>e= .returned (.bool (m.isPrefixOf l))/\ w=w':=by
 refine(Tryz.bytes_HasPrefix_all A1 A2 l.length c m.length d (l.map fun c=>(c.toNat:Int)) (m.map fun c=>(c.toNat:Int)) w (by simp) (by simp) hc (Kv h1) (Kv h2)).mono ?_
 rintro e w' ⟨rfl,rfl⟩;rw[Kw,Kw];exact⟨rfl,rfl⟩
theorem OSp.fin {w:World} {base:Nat} {A:Option Addr} {c:Nat} {l:List RsP} (h:OSp w base (.slice A l.length c) l):l.length<= c/\ RRs w A l.length l:=by
 obtain⟨A',c',e,h1,-,h2⟩:=h.form;injection e with e1 _ e2
 subst e1;subst e2;exact⟨h1,h2⟩
theorem RRs.nil (w:World):RRs w none 0 []:=⟨Rd.nil _ _ _ _,fun _ h=>(by cases h)⟩
def Xz (w:World) (r:List Rs×Nat×Int) (e:Ending) (w':World):Prop:=
 ∃(A:Option Addr) (c:Nat) (l:List RsP),e= .returned (.tuple #[.slice A l.length c,.int .i64 (r.2.1:Int),.int .i64 r.2.2])/\ l.map (·.r)=r.1/\ l.length<= c/\ RRs w' A l.length l/\ Below w.heap.size w w'
end Go.Proofs.YtdmondfpepbniaaGreatDoor
