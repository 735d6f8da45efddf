/- Part 3 of the proof: Status Vb. -/
import Derived.Maps.RangeRun
import Derived.Test.YtdmondfpepbniaaGreatDoorQ01
import Derived.Test.YtdmondfpepbniaaGreatDoorQ02
namespace Go.Proofs.YtdmondfpepbniaaGreatDoor
open Go.RowKit
set_option maxRecDepth 100000
set_option maxHeartbeats 4000000
set_option linter.all false
def bH (c:Int):Bs:=
 if(c==100)=true then [67,111,110,116,105,110,117,101]else
 if(c==200)=true then [79,75]else
 if(c==204)=true then [78,111,32,67,111,110,116,101,110,116]else
 if(c==304)=true then [78,111,116,32,77,111,100,105,102,105,101,100]else
 if(c==400)=true then [66,97,100,32,82,101,113,117,101,115,116]else
 if(c==404)=true then [78,111,116,32,70,111,117,110,100]else
 if(c==405)=true then [77,101,116,104,111,100,32,78,111,116,32,65,108,108,111,119,101,100]else
 if(c==408)=true then [82,101,113,117,101,115,116,32,84,105,109,101,111,117,116]else
 if(c==413)=true then [67,111,110,116,101,110,116,32,84,111,111,32,76,97,114,103,101]else
 if(c==414)=true then [85,82,73,32,84,111,111,32,76,111,110,103]else
 if(c==417)=true then [69,120,112,101,99,116,97,116,105,111,110,32,70,97,105,108,101,100]else
 if(c==431)=true then [82,101,113,117,101,115,116,32,72,101,97,100,101,114,32,70,105,101,108,100,115,32,84,111,111,32,76,97,114,103,101]else
 if(c==501)=true then [78,111,116,32,73,109,112,108,101,109,101,110,116,101,100]else
 if(c==503)=true then [83,101,114,118,105,99,101,32,85,110,97,118,97,105,108,97,98,108,101]else
 if(c==505)=true then [72,84,84,80,32,86,101,114,115,105,111,110,32,78,111,116,32,83,117,112,112,111,114,116,101,100]else
 [83,116,97,116,117,115]
theorem oC (c:Int) (w:World):
 Calls Tryz.prog 57 #[.int .i64 c] w fun e w'=>e= .returned (sv (bH c))/\ w=w':=by
 go_enter Tryz.func57,Tryz.ntmps57
 go_wp2
 all_goals (go_ret;exact⟨retS (by simp[bH, *]),rfl⟩)
def bW (c:Int):Bool:=c==204||c==304|| (100<= c&&c<= 199)
theorem jy (c:Int) (w:World):
 Calls Tryz.prog 159 #[.int .i64 c] w fun e w'=>e= .returned (.bool (bW c))/\ w=w':=by
 go_enter Tryz.func159,Tryz.ntmps159
 go_wp2
 all_goals (go_ret;exact⟨fO (by rw[Bool.eq_iff_iff];simp[bW];try omega),rfl⟩)
abbrev Fd:=Bs×Bs
def aQ (l:List Fd):List Value:=l.flatMap fun f=> [sv f.1,sv f.2]
theorem oD (l:List Fd):(aQ l).length=l.length*2:=by
 induction l with
 |nil=>rfl
 |cons f l ih=>simp only[aQ,List.flatMap_cons,List.length_append,List.length_cons,List.length_nil]at ih⊢;omega
theorem oG (a b:List Fd):aQ (a++b)=aQ a++aQ b:=by simp[aQ]
theorem jC (l:List Fd): ∀u∈aQ l,u.oneCell'=true:=by
 intro u hu;simp only[aQ,List.mem_flatMap]at hu;obtain⟨f,_,hf⟩:=hu;simp at hf;rcases hf with rfl|rfl<;>rfl
theorem vJ:(Tryz.prog.info? 86).map (fun i=>(i.zero,i.size,i.bytes))=some (some (.agg #[.string ⟨#[]⟩,.string ⟨#[]⟩]),2,32):=by kernel_rfl
def ctF:Fd:=([67,111,110,116,101,110,116,45,84,121,112,101],[116,101,120,116,47,112,108,97,105,110])
def lN (c:Int) (l:List Fd):List Fd:=(if bW c then []else [ctF])++l
def lQ (c:Int):Bs:=if bW c then []else eG 10 c.toNat++ [32]++bH c++ [10]
def ZM (w:World) (B:Nat) (v:Value) (st:Int) (fs:List Fd) (body:Bs):Prop:=
 ∃Af nf cf Ab nb cb,v= .agg #[.int .i64 st,.slice Af nf cf,.slice Ab nb cb,.slice none 0 0]/\ Rd w B 2 Af nf (aQ fs)/\ Rd w B 1 Ab nb (body.map bv)/\ nf<= cf/\ nb<= cb
def zM (w:World) (st:Int) (fs:List Fd) (body:Bs) (e:Ending) (w':World):Prop:= ∃v,e= .returned v/\ ZM w' w'.heap.size v st fs body/\ Below w.heap.size w w'
theorem Il (b:Nat) (hb:2<= b): ∀(k u:Nat),u<b ^ (k+1)->(eG b u).length<= k+1
 |0,u,h=>by rw[jv b u hb,if_pos (Nat.div_eq_of_lt (by simpa using h))];simp
 |k+1,u,h=>by
  rw[jv b u hb];split
  ·simp
  ·have:=Il b hb k (u / b) (Nat.div_lt_of_lt_mul (by rwa [Nat.pow_succ,Nat.mul_comm]at h))
   simp;omega
theorem uy (u:Nat) (h:u<= 9223372036854775807):(eG 10 u).length<= 19:=Il 10 (by omega) 18 u (by omega)
theorem uz (c:Int):(bH c).length<= 31:=by
 unfold bH
 iterate 15 refine SS (Q:=fun l:Bs=>l.length<= 31) (by decide) ?_
 decide
theorem Io (c:Int) (A:Option Addr) (n cp:Nat) (l:List Fd) (w:World) (hA:Rd w w.heap.size 2 A n (aQ l)) (hc0: -9223372036854775808<= c) (hc1:c<= 9223372036854775807) (ht:Tab10 w) (hn:n<= 1000000) (hnb:bW c=false):
 Calls Tryz.prog 148 #[.int .i64 c,.slice A n cp] w (zM w c (lN c l) (lQ c)):=by
 obtain⟨i0,hi,hz0,hz1,hz2⟩:=info_parts vJ;go_enter Tryz.func148,Tryz.ntmps148
 go_wp2_with fail
 refine(jy c _).mono ?_;rintro e w' ⟨rfl,rfl⟩;go_wp2_with (at_builtin;go_loud (refine aJ _ rfl (.tmp 12) (.tmp 14) 52 52 rfl w.heap.size 86 i0 _ 2 32 Tryz.underlying52 (.inl Tryz.underlying52) hi hz0 hz1 hz2 rfl (by decide) (.slice none 0 0) 0 [] rfl (Own.nil _ _ _ _) _ 1 (aQ [ctF]) rfl (Src.fB (Rd.new _ _ (by simp) (aQ [ctF]) _ 1 2 rfl) (jC _)) (by decide) (by decide) (by simp;omega) ?_);intro v1 w1 ho1 hg1 XL;obtain⟨A1,c1,hv1,hn1,hm1,hr1,q1⟩:=ho1.rd;subst hv1;obtain⟨hc1,hf1⟩:=bcell (jr hg1);have zz1:w.heap.size+3<= w1.heap.size:=by(have:=hg1.size;simp at this;omega))
 have L1:Below w.heap.size w w1:=stepW (by go_grown) (jr hg1)
 have B1:Blk w1 (w.heap.size+1) 54 #[.int .i64 c,.slice none 0 0,.slice none 0 0,.slice none 0 0]:=((Blk.new' _ _ (by simp) _ _).alloc _).ah (jr hg1)
 have B0:Blk w1 w.heap.size 54 #[.int .i64 0,.slice none 0 0,.slice none 0 0,.slice none 0 0]:=(((Blk.new' _ _ (by simp) _ _).alloc _).alloc _).ah (jr hg1)
 have hne: ∀k,(Value.slice A1 (0+1) c1).ownBlock=some k->(k≠w.heap.size+1/\ k≠w.heap.size)/\ k<w1.heap.size:=by
  intro k hk;refine⟨?_,(ho1.lt k hk).2⟩;rcases XL with h|h
  ·rw[h]at hk;cases hk
  ·rw[h]at hk;simp at hk;omega
 clear hc1 hf1 hg1 XL hr1;refine(FC c _ hc0 (by assumption) (tab_below ht (setW L1 (by simp) _) (Nat.le_refl _))).mono ?_
 rintro e w2 ⟨rfl,hb2⟩;go_wp2_with fail
 refine(oC c _).mono ?_;rintro e w3 ⟨rfl,rfl⟩;go_wp2_with fail
 have hdl:=uy c.toNat (by omega)
 have hpl:=uz c;refine(vH _ 4 4 (w2.heap.size+1) [⟨(eG 10 c.toNat).toArray⟩,⟨#[32]⟩,⟨(bH c).toArray⟩,⟨#[10]⟩] _ (by simp) (Rd.new _ _ rfl _ _ _ _ rfl) (by omega) (by simp;omega) (by omega)).mono ?_
 rintro e w4 ⟨rfl,hb4⟩;have L4:Below w.heap.size w w4:=stepW (aj (stepW (setW L1 (by simp) _) hb2) _) hb4
 have B1':Blk w4 (w.heap.size+1) 54 #[.int .i64 c,.slice A1 (0+1) c1,.slice none 0 0,.slice none 0 0]:=(((B1.ay 1 (.slice A1 (0+1) c1)).ah hb2).alloc _).ah hb4;have B0':Blk w4 w.heap.size 54 #[.int .i64 0,.slice none 0 0,.slice none 0 0,.slice none 0 0]:=(((B0.far (by simp) _).ah hb2).alloc _).ah hb4
 have O1:Own w4 w.heap.size 86 2 (.slice A1 (0+1) c1) (0+1) ([]++aQ [ctF]):=(((ho1.far (fun k hk=>(hne k hk).1.1) _).ah hb2).alloc _).ah hb4
 have T4:=tab_below ht L4 (Nat.le_refl _);have S4:=L4.size;have S14:w1.heap.size<= w4.heap.size/\ w.heap.size+2<= w4.heap.size:=by have h2:=hb2.size;have h4:=hb4.size;simp at h2 h4;omega
 have Ig:=O1;clear L1 B1 B0 ho1 hb2 hb4 zz1 q1;have hA4:Rd w4 w.heap.size 2 A n (aQ l):=hA.below L4;have hJl:(eG 10 c.toNat++32::(bH c++ [10])).length<= 60:=by simp;omega
 go_wp2_with (first
  | (refine iM _ rfl (.tmp 22) 9 33 rfl 5 w.heap.size ⟨(eG 10 c.toNat++32::(bH c++ [10])).toArray⟩ rfl Tryz.underlying9 Tryz.underlying33 Tryz.underlying5 (by simp[maxLen,ByteArray.size];omega) S4 ?_
     intro cap w5 hcap ho5 hg5 hz5;have hb5:=jJ hg5;have B5:=B1'.ah hb5
     obtain⟨c0,c1',c2,c3,f0,f1,f2,f3⟩:=B5.c4)
  | (at_builtin
     go_must (
      refine aJ _ rfl (.tmp 26) (.tmp 27) 52 52 rfl w.heap.size 86 i0 _ 2 32 Tryz.underlying52 (.inl Tryz.underlying52) hi hz0 hz1 hz2 rfl (by decide) (.slice A1 (0+1) c1) _ _ rfl ((O1.ah hb5).far (fun k hk=>(hne k hk).1.1) _) _ n (aQ l) rfl (Src.fB ((hA4.below (hb5.mono S4)).far (by simp) _) (jC _)) (by unfold maxLen;omega) (by omega) (by simp;omega) ?_
      intro v6 w6 ho6 hg6 hat6;obtain⟨A6,c6,hv6,hn6,hm6,hr6,q6⟩:=ho6.rd;subst hv6;have B6:=(B5.ay 2 _).grown hg6 (fun e=>(hne _ e.symm).1.1 rfl)
      have B60:=((B0'.ah hb5).far (p:=⟨w.heap.size+1,2,none⟩) (by simp) _).grown hg6 (fun e=>(hne _ e.symm).1.2 rfl)
      obtain⟨k0,k1,k2,k3,g0,g1,g2,g3⟩:=B6.c4
      obtain⟨j0,j1,j2,j3,i0',i1,i2,i3⟩:=B60.c4)))
 refine bodyPost_ret (v:=.agg #[.int .i64 c,.slice A6 (1+n) c6,.slice (some ⟨w4.heap.size,0,none⟩) (List.length (eG 10 c.toNat)+(List.length (bH c)+1+1)) cap,.slice none 0 0]) (by simp[results,Tryz.results148,go_sem,j0,j1,j2,j3]) rfl ?_
 have zN: ∀k,(Value.slice A6 (0+1+n) c6).ownBlock=some k-> k≠w.heap.size+1/\ k≠w.heap.size:=by
  intro k hk;rcases hat6 with h|h
  ·rw[h]at hk;exact(hne k hk).1
  ·rw[h]at hk;simp at hk;have:=hb5.size;omega
 have hbk: ∀k,(Value.slice (some ⟨w4.heap.size,0,none⟩) (List.length (eG 10 c.toNat)+(List.length (bH c)+1+1)) cap).ownBlock=some k-> k≠w.heap.size+1/\ k≠w.heap.size:=by
  intro k hk;simp[Value.ownBlock]at hk;omega
 have ho5':Own w5 w.heap.size 5 1 (.slice (some ⟨w4.heap.size,0,none⟩) (List.length (eG 10 c.toNat)+(List.length (bH c)+1+1)) cap) (List.length (eG 10 c.toNat)+(List.length (bH c)+1+1)) ((eG 10 c.toNat++32::(bH c++ [10])).map bv):=by
  simpa [ByteArray.size] using ho5
 have ho5w:Own w6 w.heap.size 5 1 _ _ _:=(ho5'.far (p:=⟨w.heap.size+1,2,none⟩) (fun k hk=>(hbk k hk).1) _).grown hg6 (.inr (by
  intro h;have:=(hne w4.heap.size h.symm).2;omega))
 have O6:=((((ho6.far (p:=⟨w.heap.size+1,1,none⟩) (fun k hk=>(zN k hk).1) (.slice A6 (1+n) c6)).far (p:=⟨w.heap.size,0,none⟩) (fun k hk=>(zN k hk).2) (.int .i64 c)).far (p:=⟨w.heap.size,1,none⟩) (fun k hk=>(zN k hk).2) (.slice A6 (1+n) c6)).far (p:=⟨w.heap.size,2,none⟩) (fun k hk=>(zN k hk).2) (.slice (some ⟨w4.heap.size,0,none⟩) (List.length (eG 10 c.toNat)+(List.length (bH c)+1+1)) cap)).far (p:=⟨w.heap.size,3,none⟩) (fun k hk=>(zN k hk).2) (.slice none 0 0)
 have O5:=((((ho5w.far (p:=⟨w.heap.size+1,1,none⟩) (fun k hk=>(hbk k hk).1) (.slice A6 (1+n) c6)).far (p:=⟨w.heap.size,0,none⟩) (fun k hk=>(hbk k hk).2) (.int .i64 c)).far (p:=⟨w.heap.size,1,none⟩) (fun k hk=>(hbk k hk).2) (.slice A6 (1+n) c6)).far (p:=⟨w.heap.size,2,none⟩) (fun k hk=>(hbk k hk).2) (.slice (some ⟨w4.heap.size,0,none⟩) (List.length (eG 10 c.toNat)+(List.length (bH c)+1+1)) cap)).far (p:=⟨w.heap.size,3,none⟩) (fun k hk=>(hbk k hk).2) (.slice none 0 0)
 have L6:Below w.heap.size w w6:=DC (setW (p:=⟨w.heap.size+1,2,none⟩) (stepW L4 hb5) (by simp) _) hg6 (fun k hk=>(Ig.lt k hk).1)
 refine⟨_,rfl,⟨A6,1+n,c6,_,_,cap,rfl,?_,?_,by omega,by simpa [ByteArray.size] using hcap⟩,setW (setW (setW (setW (setW L6 (by simp) _) (by simp) _) (by simp) _) (by simp) _) (by simp) _⟩
 ·have h:=O6.rdS.2.2
  rw[lN,hnb,if_neg (by decide),oG]
  simpa [Nat.add_comm] using h
 ·have h:=O5.rdS.2.2
  rw[lQ,hnb,if_neg (by decide)]
  simpa using h
theorem Ip (c:Int) (A:Option Addr) (n cp:Nat) (l:List Fd) (w:World) (hA:Rd w w.heap.size 2 A n (aQ l)) (hn:n<= 1000000) (hnb:bW c=true):
 Calls Tryz.prog 148 #[.int .i64 c,.slice A n cp] w (zM w c (lN c l) (lQ c)):=by
 obtain⟨i0,hi,hz0,hz1,hz2⟩:=info_parts vJ;go_enter Tryz.func148,Tryz.ntmps148
 go_wp2_with fail
 refine(jy c _).mono ?_;rintro e w' ⟨rfl,rfl⟩;go_wp2_with (at_builtin;go_must (refine aJ _ rfl (.tmp 26) (.tmp 27) 52 52 rfl w.heap.size 86 i0 _ 2 32 Tryz.underlying52 (.inl Tryz.underlying52) hi hz0 hz1 hz2 rfl (by decide) (.slice none 0 0) 0 [] rfl (Own.nil _ _ _ _) _ n (aQ l) rfl (Src.fB ((hA.alloc (Nat.le_refl _) _).alloc (by simp) _) (jC _)) (by unfold maxLen;omega) (by omega) (by simp;omega) ?_;intro v1 w1 ho1 hg1 XL;obtain⟨A6,c6,hv1,n1,m1,r1,q1⟩:=ho1.rd;subst hv1;have B1:Blk w1 (w.heap.size+1) 54 #[.int .i64 c,.slice none 0 0,.slice none 0 0,.slice none 0 0]:=((Blk.new' _ _ (by simp) _ _)).ah (jr hg1);have B0:Blk w1 w.heap.size 54 #[.int .i64 0,.slice none 0 0,.slice none 0 0,.slice none 0 0]:=(((Blk.new' _ _ (by simp) _ _).alloc _)).ah (jr hg1);obtain⟨k0,k1,k2,k3,g0,g1,g2,g3⟩:=B1.c4;obtain⟨j0,j1,j2,j3,i0',i1,i2,i3⟩:=B0.c4))
 have L1:Below w.heap.size w w1:=stepW (by go_grown) (jr hg1)
 refine bodyPost_ret (v:=.agg #[.int .i64 c,.slice A6 n c6,.slice none 0 0,.slice none 0 0]) (by simp[results,Tryz.results148,go_sem,j0,j1,j2,j3]) rfl ?_
 have zN: ∀k,(Value.slice A6 (0+n) c6).ownBlock=some k-> k≠w.heap.size+1/\ k≠w.heap.size:=by
  intro k hk;rcases XL with h|h
  ·rw[h]at hk;cases hk
  ·rw[h]at hk;simp at hk;omega
 have O6:=((((ho1.far (p:=⟨w.heap.size+1,1,none⟩) (fun k hk=>(zN k hk).1) (.slice A6 n c6)).far (p:=⟨w.heap.size,0,none⟩) (fun k hk=>(zN k hk).2) (.int .i64 c)).far (p:=⟨w.heap.size,1,none⟩) (fun k hk=>(zN k hk).2) (.slice A6 n c6)).far (p:=⟨w.heap.size,2,none⟩) (fun k hk=>(zN k hk).2) (.slice none 0 0)).far (p:=⟨w.heap.size,3,none⟩) (fun k hk=>(zN k hk).2) (.slice none 0 0)
 refine⟨_,rfl,⟨A6,n,c6,none,0,0,rfl,?_,?_,by omega,Nat.le_refl _⟩,setW (setW (setW (setW (setW L1 (by simp) _) (by simp) _) (by simp) _) (by simp) _) (by simp) _⟩
 ·have h:=O6.rdS.2.2
  rw[lN,hnb,if_pos rfl];simpa using h
 ·rw[lQ,hnb,if_pos rfl]
  exact Rd.nil _ _ _ _
theorem KN (c:Int) (A:Option Addr) (n cp:Nat) (l:List Fd) (w:World) (hA:Rd w w.heap.size 2 A n (aQ l)) (hc0: -9223372036854775808<= c) (hc1:c<= 9223372036854775807) (ht:Tab10 w) (hn:n<= 1000000):
 Calls Tryz.prog 148 #[.int .i64 c,.slice A n cp] w (zM w c (lN c l) (lQ c)):=by
 cases h:bW c
 ·exact Io c A n cp l w hA hc0 hc1 ht hn h
 ·exact Ip c A n cp l w hA hn h
section
open Go.ChangeMaps (setBlock)
section
variable {α β:Type} [DecidableEq α]
def aT (l:List (α×β)) (a:α):Option β:=(l.find? fun p=>decide (p.1=a)).map (·.2)
def jD (l:List (α×β)) (a:α):Bool:=l.any fun p=>decide (p.1=a)
def dL (l:List (α×β)) (a:α) (b:β):List (α×β):=l.map fun p=>if p.1=a then(a,b)else p
def bK (l:List (α×β)) (a:α) (b:β):List (α×β):=if jD l a then dL l a b else l++ [(a,b)]
def jO (l:List (α×β)) (a:α):List (α×β):=l.filter fun p=>decide (p.1≠a)
theorem rD (l:List (α×β)) (a:α):jD l a=false↔∀p∈l,p.1≠a:=by simp[jD]
theorem O9 (l:List (α×β)) (a:α) (h: ∀p∈l,p.1≠a):aT l a=none:=by
 rw[aT,Option.map_eq_none_iff,List.find?_eq_none];intro p hp;simpa using h p hp
theorem zf: ∀(l:List (α×β)) (j:Nat) (p:α×β),(l.map (·.1)).Nodup-> l[j]? = some p-> aT l p.1=some p.2
 | [],j,p,_,h=>by simp at h
 |q::l,0,p,_,h=>by
  obtain rfl:q=p:=by simpa using h
  simp[aT]
 |q::l,j+1,p,hn,h=>by
  rw[List.map_cons,List.nodup_cons]at hn;have h1:l[j]? = some p:=by simpa using h
  have hne:q.1≠p.1:=fun e=>hn.1 (by rw[e];exact List.mem_map_of_mem (List.mem_of_getElem? h1))
  have:=zf l j p hn.2 h1;simp only[aT,List.find?_cons,decide_eq_false hne];exact this
theorem zO (l:List (α×β)) (a:α) (b:β) (h: ∀p∈l,p.1≠a):dL l a b=l:=by
 rw[dL];refine(List.map_congr_left (g:=id) fun p hp=> ?_).trans (List.map_id l)
 rw[if_neg (h p hp)];rfl
theorem vK (l:List (α×β)) (a:α) (h: ∀p∈l,p.1≠a):jO l a=l:=by
 rw[jO,List.filter_eq_self];intro p hp;simpa using h p hp
theorem NR: ∀(l:List (α×β)) (j:Nat) (p:α×β) (b:β),(l.map (·.1)).Nodup-> l[j]? = some p-> dL l p.1 b=l.set j (p.1,b)
 | [],j,p,b,_,h=>by simp at h
 |q::l,0,p,b,hn,h=>by
  obtain rfl:q=p:=by simpa using h
  rw[List.map_cons,List.nodup_cons]at hn;have:dL l q.1 b=l:=zO _ _ _ fun x hx e=>hn.1 (by rw[<- e];exact List.mem_map_of_mem hx)
  rw[dL,List.map_cons,if_pos rfl,List.set_cons_zero];rw[dL]at this;rw[this]
 |q::l,j+1,p,b,hn,h=>by
  rw[List.map_cons,List.nodup_cons]at hn;have h1:l[j]? = some p:=by simpa using h
  have hne:q.1≠p.1:=fun e=>hn.1 (by rw[e];exact List.mem_map_of_mem (List.mem_of_getElem? h1))
  rw[dL,List.map_cons,if_neg hne,List.set_cons_succ,<- NR l j p b hn.2 h1,dL]
theorem NS: ∀(l:List (α×β)) (j:Nat) (p:α×β),(l.map (·.1)).Nodup-> l[j]? = some p-> jO l p.1=l.eraseIdx j
 | [],j,p,_,h=>by simp at h
 |q::l,0,p,hn,h=>by
  obtain rfl:q=p:=by simpa using h
  rw[List.map_cons,List.nodup_cons]at hn;have:jO l q.1=l:=vK _ _ fun x hx e=>hn.1 (by rw[<- e];exact List.mem_map_of_mem hx)
  rw[jO]at this⊢;rw[List.filter_cons,if_neg (by simp),this];rfl
 |q::l,j+1,p,hn,h=>by
  rw[List.map_cons,List.nodup_cons]at hn;have h1:l[j]? = some p:=by simpa using h
  have hne:q.1≠p.1:=fun e=>hn.1 (by rw[e];exact List.mem_map_of_mem (List.mem_of_getElem? h1))
  have:=NS l j p hn.2 h1;rw[jO]at this⊢;rw[List.filter_cons,if_pos (by simpa using hne),this];rfl
theorem Tn (l:List (α×β)) (a:α) (b:β):(dL l a b).map (·.1)=l.map (·.1):=by
 rw[dL,List.map_map];refine List.map_congr_left fun p _=> ?_
 simp only[Function.comp];split
 ·rename_i h;exact h.symm
 ·rfl
theorem Iq (l:List (α×β)) (a:α) (b:β) (h:(l.map (·.1)).Nodup):((bK l a b).map (·.1)).Nodup:=by
 rw[bK];split
 ·rw[Tn];exact h
 ·rename_i h1
  have h2:=(rD l a).1 (by simpa using h1)
  rw[List.map_append,List.nodup_append];refine⟨h,by simp,fun x hx y hy=> ?_⟩
  obtain⟨p,hp,rfl⟩:=List.mem_map.1 hx;simp at hy;rw[hy];exact h2 p hp
theorem Tq (l:List (α×β)) (a:α) (h:(l.map (·.1)).Nodup):((jO l a).map (·.1)).Nodup:=by
 rw[jO];exact List.Nodup.sublist ((List.filter_sublist).map _) h
end
structure MK (P:Program) (kt:TypeId) {α:Type} (kV:α-> Value) (Ok:α-> Prop):Prop where
 K:Go.Maps.Keyed P kt
 lit: ∀a,Ok a-> ∃c,keyOf P kt (kV a)=some c
 inj: ∀a b,Ok a-> Ok b-> kV a=kV b-> a=b
def MT (w:World) (t:Nat-> Nat) (τ b:Nat) {α β:Type} (kV:α-> Value) (Ok:α-> Prop) (vV:β-> Value) (l:List (α×β)):Prop:=
 t b=τ/\ (∀p∈l,Ok p.1)/\ (l.map (·.1)).Nodup/\ ∃es clock,w.heap[b]? = some (.map es clock)/\ es.toList.map (fun e=>(e.key,e.val))=l.map (fun p=>(kV p.1,vV p.2))/\ (es.toList.map (·.born)).Nodup/\ ∀e∈es.toList,e.born<clock
section
variable {α β:Type} [DecidableEq α] {P:Program} {kt et T:TypeId} {kV:α-> Value} {Ok:α-> Prop} {vV:β-> Value} {w w':World} {t t':Nat-> Nat} {τ ρ b r:Nat} {l todo:List (α×β)} {S:Nat-> Prop}
theorem MT.lt (h:MT w t τ b kV Ok vV l):b<w.heap.size:=by
 obtain⟨-,-,-,es,clock,hb,-⟩:=h;exact(Array.getElem?_eq_some_iff.1 hb).1
theorem MT.keep (h:MT w t τ b kV Ok vV l) (s:Stp S w t w' t') (hs: ¬S τ):MT w' t' τ b kV Ok vV l:=by
 have hlt:=h.lt;obtain⟨hm,ho,hn,es,clock,hb,r⟩:=h;exact⟨(s.old b hlt).trans hm,ho,hn,es,clock,(s.block hlt (by rw[hm];exact hs)).trans hb,r⟩
theorem MT.drewN (h:MT w t τ b kV Ok vV l) (n:Nat):MT (w.drewN n) t τ b kV Ok vV l:=h
theorem MT.new (w:World) (t:Nat-> Nat) (τ:Nat) (kV:α-> Value) (Ok:α-> Prop) (vV:β-> Value):MT (w.alloc (.map #[] 0)) (upT t w τ) τ w.heap.size kV Ok vV []:=
 ⟨iO (Nat.le_refl _),fun _ h=>(by cases h),by simp,#[],0,heap_alloc_new w _,by simp,by simp,by simp⟩
omit [DecidableEq α] in
theorem FK (M:MK P kt kV Ok) (h:MT w t τ b kV Ok vV l) {a:α} (ha:Ok a) {es:Array MapEntry} (hes:es.toList.map (fun e=>(e.key,e.val))=l.map (fun p=>(kV p.1,vV p.2))):
 ((Instr.findKey kt (kV a) es.toList).run P w= .ok none w/\ ∀p∈l,p.1≠a)\/ ∃j e p,(Instr.findKey kt (kV a) es.toList).run P w= .ok (some (j,e.val)) w/\ es.toList[j]? = some e/\ l[j]? = some p/\ p.1=a/\ e.key=kV a/\ e.val=vV p.2:=by
 obtain⟨hm,ho,hn,-⟩:=h;obtain⟨c,hc⟩:=M.lit a ha;have hkeys: ∀e∈es.toList,∃c,keyOf P kt e.key=some c:=by
  intro e he;have h1:(e.key,e.val)∈l.map (fun p=>(kV p.1,vV p.2)):=by rw[<- hes];exact List.mem_map_of_mem he
  obtain⟨p,hp,h2⟩:=List.mem_map.1 h1;injection h2 with h3 _
  rw[<- h3];exact M.lit _ (ho p hp)
 rcases M.K.find w hc es.toList hkeys with⟨h1,h2⟩| ⟨j,e,h1,h2,h3⟩
 ·refine .inl ⟨h1,fun p hp hpa=> ?_⟩
  have h4:(kV p.1,vV p.2)∈es.toList.map (fun e=>(e.key,e.val)):=by rw[hes];exact List.mem_map.2 ⟨p,hp,rfl⟩
  obtain⟨e,he,h5⟩:=List.mem_map.1 h4;injection h5 with h6 _
  exact h2 e he (by rw[h6,hpa])
 ·have h4:(l.map (fun p=>(kV p.1,vV p.2)))[j]? = some (e.key,e.val):=by rw[<- hes,List.getElem?_map,h2];rfl
  rw[List.getElem?_map,Option.map_eq_some_iff]at h4;obtain⟨p,hp,h5⟩:=h4;injection h5 with h6 h7
  exact .inr ⟨j,e,p,h1,h2,hp,M.inj _ _ (ho p (List.mem_of_getElem? hp)) ha (by rw[h6,h3]),h3,h7.symm⟩
theorem MT.look (M:MK P kt kV Ok) (ht:P.underlying T=some (.map kt et)) {z:Value} (hz:(zeroValue et).run P w= .ok z w) (h:MT w t τ b kV Ok vV l) (a:α) (ha:Ok a) (c:Bool):
 (Instr.lookup T (.map (some b)) (kV a) c).run P w= .ok (match aT l a with|some v=>if c then .tuple #[vV v,.bool true]else vV v|none=>if c then .tuple #[z,.bool false]else z) w:=by
 have h':=h;obtain⟨hm,ho,hn,es,clock,hb,hes,-,-⟩:=h;obtain⟨k,hk⟩:=M.lit a ha;rcases FK M h' ha hes with⟨h1,h2⟩| ⟨j,e,p,h1,h2,h3,h4,h5,h6⟩
 ·rw[O9 l a h2]
  simp[Instr.lookup,run_underlying ht,MapKept.run_getObj_map hb,M.K.check w _ hk,h1,hz,Result.andThen]
 ·have h7:=zf l j p hn h3
  rw[h4]at h7;rw[h7];simp[Instr.lookup,run_underlying ht,MapKept.run_getObj_map hb,M.K.check w _ hk,h1,h6,Result.andThen]
theorem rE (hb:t b=τ) (hs:S τ) (o:Obj):Stp S w t (setBlock w b o) t:=by
 refine⟨⟨rfl,rfl,rfl,by simp[setBlock],fun k hk hn=> ?_⟩,fun _ _=>rfl⟩
 have:k≠b:=fun e=>hn (by subst e;rw[hb];exact hs)
 simp[setBlock,Array.getElem?_setIfInBounds,Ne.symm this]
theorem MT.put (M:MK P kt kV Ok) (ht:P.underlying T=some (.map kt et)) (h:MT w t τ b kV Ok vV l) (a:α) (ha:Ok a) (v:β):
 ∃w',(Instr.mapUpdate T (.map (some b)) (kV a) (vV v)).run P w= .ok () w'/\ MT w' t τ b kV Ok vV (bK l a v)/\ ∀S:Nat-> Prop,S τ-> Stp S w t w' t:=by
 have h':=h;have hlt:=h.lt;obtain⟨hm,ho,hn,es,clock,hb,hes,hbn,hbc⟩:=h;obtain⟨k,hk⟩:=M.lit a ha;rcases FK M h' ha hes with⟨h1,h2⟩| ⟨j,e,p,h1,h2,h3,h4,h5,h6⟩
 ·refine⟨setBlock w b (.map (es.push ⟨kV a,vV v,clock⟩) (clock+1)),?_,⟨hm,?_,Iq l a v hn,es.push ⟨kV a,vV v,clock⟩,clock+1,by simp[setBlock,hlt],?_,?_,?_⟩,fun S hS=>rE hm hS _⟩
  ·simp[Instr.mapUpdate,run_underlying ht,MapKept.run_getObj_map hb,M.K.check w false hk,h1,MapKept.run_setObj_map _ hb,Result.andThen,setBlock]
  ·rw[bK,(rD l a).2 h2]
   intro q hq;simp at hq;rcases hq with hq|rfl
   ·exact ho q hq
   ·exact ha
  ·rw[bK,(rD l a).2 h2]
   simp[hes]
  ·rw[Array.toList_push,List.map_append,List.nodup_append]
   refine⟨hbn,by simp,fun x hx y hy=> ?_⟩
   obtain⟨e,he,rfl⟩:=List.mem_map.1 hx;simp at hy;have:=hbc e he;omega
  ·intro e he
   simp at he;rcases he with he|rfl
   ·have:=hbc e (by simpa using he);omega
   ·exact Nat.lt_succ_self _
 ·have hjs:j<es.size:=by have:=(List.getElem?_eq_some_iff.1 h2).1;simpa using this
  have hej:es[j]? = some e:=by rw[<- h2];simp
  have hstay:(Instr.keyThatStays e.key (kV a)).run P w= .ok (kV a) w:=by rw[h5];exact M.K.stays w hk
  have hhas:jD l a=true:=by
   rw[jD,List.any_eq_true];exact⟨p,List.mem_of_getElem? h3,by simpa using h4⟩
  refine⟨setBlock w b (.map (es.modify j fun e=> { e with key:=kV a,val:=vV v }) clock),?_,⟨hm,?_,Iq l a v hn,es.modify j fun e=> { e with key:=kV a,val:=vV v },clock,by simp[setBlock,hlt],?_,?_,?_⟩,fun S hS=>rE hm hS _⟩
  ·simp[Instr.mapUpdate,run_underlying ht,MapKept.run_getObj_map hb,M.K.check w false hk,h1,hej,hstay,MapKept.run_setObj_map _ hb,Result.andThen,setBlock]
  ·rw[bK,hhas,if_pos rfl]
   intro q hq;rw[dL]at hq;obtain⟨q',hq',rfl⟩:=List.mem_map.1 hq;split
   ·exact ha
   ·exact ho q' hq'
  ·rw[bK,hhas,if_pos rfl,<- h4,NR l j p v hn h3,h4,List.map_set,<- hes]
   refine List.ext_getElem? fun i=> ?_
   rw[List.getElem?_set,List.getElem?_map,List.getElem?_map,Array.getElem?_toList,Array.getElem?_modify,Array.getElem?_toList];by_cases hij:j=i
   ·subst hij
    rw[if_pos rfl,if_pos rfl,hej];simp[hjs]
   ·rw[if_neg hij,if_neg hij]
  ·have:(es.modify j fun e=> { e with key:=kV a,val:=vV v }).toList.map (·.born)=es.toList.map (·.born):=by
    refine List.ext_getElem? fun i=> ?_
    rw[List.getElem?_map,List.getElem?_map,Array.getElem?_toList,Array.getElem?_modify,Array.getElem?_toList];by_cases hij:j=i
    ·subst hij;rw[if_pos rfl,hej];rfl
    ·rw[if_neg hij]
   rw[this];exact hbn
  ·intro x hx
   obtain⟨i,hi⟩:=List.mem_iff_getElem?.1 hx;rw[Array.getElem?_toList,Array.getElem?_modify]at hi;by_cases hij:j=i
   ·subst hij
    rw[if_pos rfl,hej]at hi;obtain rfl:=(Option.some.inj hi).symm;exact hbc e (List.mem_of_getElem? h2)
   ·rw[if_neg hij]at hi
    exact hbc x (List.mem_of_getElem? (by rw[Array.getElem?_toList];exact hi))
theorem MT.del (M:MK P kt kV Ok) (ht:P.underlying T=some (.map kt et)) (ty:TypeId) (h:MT w t τ b kV Ok vV l) (a:α) (ha:Ok a):
 ∃w',(Builtin.delete_ #[T,kt] ty #[.map (some b),kV a]).run P w= .ok (.tuple #[]) w'/\ MT w' t τ b kV Ok vV (jO l a)/\ ∀S:Nat-> Prop,S τ-> Stp S w t w' t:=by
 have h':=h;have hlt:=h.lt;obtain⟨hm,ho,hn,es,clock,hb,hes,hbn,hbc⟩:=h;obtain⟨k,hk⟩:=M.lit a ha;rcases FK M h' ha hes with⟨h1,h2⟩| ⟨j,e,p,h1,h2,h3,h4,h5,h6⟩
 ·refine⟨setBlock w b (.map es clock),?_,⟨hm,?_,?_,es,clock,by simp[setBlock,hlt],?_,hbn,hbc⟩,fun S hS=>rE hm hS _⟩
  ·simp[Builtin.delete_,run_underlying ht,MapKept.run_getObj_map hb,M.K.check w _ hk,h1,MapKept.run_setObj_map _ hb,Result.andThen,setBlock]
  ·rw[vK l a h2];exact ho
  ·rw[vK l a h2];exact hn
  ·rw[vK l a h2];exact hes
 ·have hjs:j<es.size:=by have:=(List.getElem?_eq_some_iff.1 h2).1;simpa using this
  have hsub:(es.eraseIdxIfInBounds j).toList=es.toList.eraseIdx j:=by
   unfold Array.eraseIdxIfInBounds;rw[dif_pos hjs];simp
  refine⟨setBlock w b (.map (es.eraseIdxIfInBounds j) clock),?_,⟨hm,?_,Tq l a hn,es.eraseIdxIfInBounds j,clock,by simp[setBlock,hlt],?_,?_,?_⟩,fun S hS=>rE hm hS _⟩
  ·simp[Builtin.delete_,run_underlying ht,MapKept.run_getObj_map hb,M.K.check w _ hk,h1,MapKept.run_setObj_map _ hb,Result.andThen,setBlock]
  ·intro q hq
   rw[jO]at hq;exact ho q (List.mem_filter.1 hq).1
  ·rw[hsub,<- h4,NS l j p hn h3,Go.ChangeMaps.map_eraseIdx,hes,<- Go.ChangeMaps.map_eraseIdx]
  ·rw[hsub]
   exact List.Nodup.sublist ((List.eraseIdx_sublist _ _).map _) hbn
  ·rw[hsub]
   intro e he;exact hbc e ((List.eraseIdx_sublist _ _).subset he)
theorem MT.len (ht:P.underlying T=some (.map kt et)) (ty:TypeId) (h:MT w t τ b kV Ok vV l):(Builtin.len_ #[T] ty #[.map (some b)]).run P w= .ok (.int .i64 (l.length:Int)) w:=by
 obtain⟨hm,ho,hn,es,clock,hb,hes,-,-⟩:=h;have hl:l.length=es.size:=by
  have:=congrArg List.length hes;simpa using this.symm
 simp[Builtin.len_,Builtin.lenOf,run_underlying ht,MapKept.run_getObj_map hb,hl,Result.andThen,goInt]
def MR (w:World) (t:Nat-> Nat) (τ ρ b r:Nat) {α β:Type} (kV:α-> Value) (Ok:α-> Prop) (vV:β-> Value) (l todo:List (α×β)):Prop:=
 MT w t τ b kV Ok vV l/\ t r=ρ/\ ∃es clock since seen c0,w.heap[b]? = some (.map es clock)/\ w.heap[r]? = some (.mapIter (some b) since seen c0)/\ (∀x∈es.toList,x.born<since)/\ since<= c0/\ since<= clock/\
  ((leftOf es seen).toList.map fun e=>(e.key,e.val)).Perm (todo.map fun p=>(kV p.1,vV p.2))/\ ∀p∈todo,p∈l
theorem mW: ∀(l:List MapEntry) (e:MapEntry),(l.map (·.born)).Nodup-> e∈l-> l.Perm (e::l.filter fun x=> !(x.born==e.born))
 | [],e,_,h=>by simp at h
 |x::l,e,hn,h=>by
  rw[List.map_cons,List.nodup_cons]at hn;rcases List.mem_cons.1 h with rfl|h
  ·rw[List.filter_cons,if_neg (by simp)]
   refine List.Perm.cons _ ?_;rw[List.filter_eq_self.2];intro y hy;have:y.born≠e.born:=fun h=>hn.1 (by rw[<- h];exact List.mem_map_of_mem hy)
   simpa using this
  ·have hne:x.born≠e.born:=fun h'=>hn.1 (by rw[h'];exact List.mem_map_of_mem h)
   rw[List.filter_cons,if_pos (by simpa using hne)]
   exact((mW l e hn.2 h).cons x).trans (List.Perm.swap _ _ _)
theorem MR.next (h:MR w t τ ρ b r kV Ok vV l todo) (ty:TypeId):
 (todo= []/\ (Instr.next (.pointer (some ⟨r,0,none⟩)) false ty).run P w= .ok (.tuple #[.bool false]) w)\/
 ∃p todo' w',p∈l/\ todo.Perm (p::todo')/\ (Instr.next (.pointer (some ⟨r,0,none⟩)) false ty).run P w= .ok (.tuple #[.bool true,kV p.1,vV p.2]) w'/\ MR w' t τ ρ b r kV Ok vV l todo'/\ (∀S:Nat-> Prop,S ρ-> Stp S w t w' t)/\
  (Instr.entry (.pointer (some ⟨r,0,none⟩))).run P w'= .ok (.tuple #[kV p.1,vV p.2]) w':=by
 obtain⟨hM,hr0,es,clock,since,seen,c0,hb,hr,hold,hsc,hsk,hperm,hsub⟩:=h;obtain⟨hm,ho,hn,es',clock',hb',hes,hbn,hbc⟩:=hM;obtain⟨rfl,rfl⟩:es=es'/\ clock=clock':=by
  rw[hb]at hb';injection hb' with hb';injection hb' with h1 h2;exact⟨h1,h2⟩
 have hrb:r≠b:=fun e=>by rw[e,hb]at hr;injection hr with hr;injection hr
 have hL:((leftOf es seen).toList.map (·.born)).Nodup:=by
  unfold leftOf;rw[Array.toList_filter];exact List.Nodup.sublist ((List.filter_sublist).map _) hbn
 rcases run_next_at (P:=P) w ty r b since c0 seen es clock hr hb hold hsc with⟨h0,hrun⟩| ⟨e,he,w1,hal,hrun⟩
 ·refine .inl ⟨?_,hrun⟩
  have h1:(leftOf es seen).toList= []:=List.eq_nil_of_length_eq_zero (by simpa using h0)
  rw[h1]at hperm;have:=hperm.length_eq;simpa using this.symm
 ·have hmem:e∈es.toList:=by
   unfold leftOf at he;rw[Array.toList_filter]at he;exact(List.mem_filter.1 he).1
  have h1:(e.key,e.val)∈todo.map fun p=>(kV p.1,vV p.2):=hperm.subset (List.mem_map_of_mem (f:=fun e:MapEntry=>(e.key,e.val)) he)
  obtain⟨p0,hp0,hpe0⟩:=List.mem_map.1 h1;injection hpe0 with hk0 hv0
  obtain⟨l1,l2,rfl⟩:=List.append_of_mem hp0;have hpt:(l1++p0::l2).Perm (p0::(l1++l2)):=List.perm_middle;have ZN:((leftOf es (seen.push e.born)).toList.map fun e=>(e.key,e.val)).Perm ((l1++l2).map fun p=>(kV p.1,vV p.2)):=by
   have h2:(leftOf es (seen.push e.born)).toList=(leftOf es seen).toList.filter fun x=> !(x.born==e.born):=by
    unfold leftOf;rw[Array.toList_filter,Array.toList_filter,List.filter_filter];refine List.filter_congr fun x hx=> ?_
    rw[Array.contains_push,Bool.not_or,Bool.and_comm]
   rw[h2];have h3:=(mW _ e hL he).map fun e=>(e.key,e.val)
   have h4:=h3.symm.trans (hperm.trans (hpt.map fun p=>(kV p.1,vV p.2)))
   rw[List.map_cons,List.map_cons,hk0,hv0]at h4;exact(List.perm_cons _).1 h4
  have hr1:w1.heap[r]? = some (.mapIter (some b) since seen c0):=by rcases hal with rfl|rfl<;>exact hr
  have hb1:w1.heap[b]? = some (.map es clock):=by rcases hal with rfl|rfl<;>exact hb
  have hset:(setBlock w1 r (.mapIter (some b) since (seen.push e.born) clock)).heap[r]? = some (.mapIter (some b) since (seen.push e.born) clock)/\ ∀k,k≠r->(setBlock w1 r (.mapIter (some b) since (seen.push e.born) clock)).heap[k]? = w1.heap[k]? :=
   ⟨by simp[setBlock,(Array.getElem?_eq_some_iff.1 hr1).1],fun k hk=>by simp[setBlock,Array.getElem?_setIfInBounds,Ne.symm hk]⟩
  have hb2:(setBlock w1 r (.mapIter (some b) since (seen.push e.born) clock)).heap[b]? = some (.map es clock):=(hset.2 b (fun e1=>hrb e1.symm)).trans hb1
  rw[<- hk0,<- hv0]at hrun;refine .inr ⟨p0,l1++l2,_,hsub p0 hp0,hpt,hrun,⟨⟨hm,ho,hn,es,clock,hb2,hes,hbn,hbc⟩,hr0,es,clock,since,seen.push e.born,clock,hb2,hset.1,hold,hsk,hsk,ZN,fun p hp=>hsub p (hpt.symm.subset (List.mem_cons_of_mem _ hp))⟩,fun S hS=> ?_,?_⟩
  ·refine⟨?_,fun _ _=>rfl⟩
   rcases hal with rfl|rfl<;>exact⟨rfl,rfl,rfl,by simp[setBlock],fun k _ hk=>hset.2 k (fun e1=>hk (by subst e1;rw[hr0];exact hS))⟩
  ·rw[hk0,hv0]
   exact run_entry_at _ r b since seen es clock e hset.1 hb2 hmem hbn
theorem MT.range (ht:P.underlying T=some (.map kt et)) (h:MT w t τ b kV Ok vV l) (ρ:Nat):
 ∃w',(Instr.range T (.map (some b))).run P w= .ok (.pointer (some ⟨w.heap.size,0,none⟩)) w'/\ MR w' (upT t w ρ) τ ρ b w.heap.size kV Ok vV l l/\ ∀S:Nat-> Prop,Stp S w t w' (upT t w ρ):=by
 have hlt:=h.lt;obtain⟨hm,ho,hn,es,clock,hb,hes,hbn,hbc⟩:=h;have hb2:=((MapKept.heap_alloc w (.mapIter (some b) clock #[] clock)).2 b hlt).trans hb
 exact⟨_,run_range_map w T kt et b es clock ht hb,⟨⟨(iq hlt).trans hm,ho,hn,es,clock,hb2,hes,hbn,hbc⟩,iO (Nat.le_refl _),es,clock,clock,#[],clock,hb2,(MapKept.heap_alloc w _).1,hbc,Nat.le_refl _,Nat.le_refl _,by
  have:(leftOf es #[]).toList=es.toList:=by simp[leftOf]
  rw[this,hes],fun _ h=>h⟩,fun S=>Stp.alloc w t S _ ρ⟩
end
end
end Go.Proofs.YtdmondfpepbniaaGreatDoor
