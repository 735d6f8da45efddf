/- Part 30 of the proof: VhF. -/
import Derived.Test.YtdmondfpepbniaaGreatDoorQ28
import Derived.Test.YtdmondfpepbniaaGreatDoorQ29
namespace Go.Proofs.YtdmondfpepbniaaGreatDoor
open Go.RowKit
set_option maxRecDepth 100000
set_option maxHeartbeats 4000000
set_option linter.all false
def stR:Rs:=okR [116,101,120,116,47,112,108,97,105,110] [111,107,10]
theorem Xa:dh stR=true:=by kernel_rfl
theorem wQ:Light stR:=⟨by decide,by decide,by decide,by decide⟩
theorem st_z (x:RsP) (h:x.r=stR):RsZ x:=⟨by rw[h];intro f hf;have:=wQ.e f hf;omega,by rw[h];decide,by rw[h];decide,by rw[h];decide⟩
theorem Xb (head:Bool) (minor:Int) (fin:Bool):(encR stR head minor fin).2=0/\ (encR stR head minor fin).1.length<= 65536:=by
 rw[yh _ _ _ _ wQ,if_pos Xa];exact⟨rfl,rY _ _ _ _ wQ Xa⟩
structure Nl (cf:Cf) (c:CnS):Prop where
 pf:c.p.fed<= 900000000
 qb:c.q.b.length<= 900000
 qp:c.q.pcs.length<= 10000
 ql:c.q.last<= 1000000
 fd:c.fed<= 1000000
 tk:c.taken<= 1000000
 la:c.laid<= 1000000
 wh:c.whole<= 1000000
 tl:c.told<= 1000000
 pp:c.ending=false-> c.p.phase<3-> c.q.pcs.length<cf.pipe
theorem OE {cf:Cf} {c:CnS} (h:Zb cf c=true):Nl cf c:=by
 simp only[Zb,Bool.and_eq_true,Bool.or_eq_true,decide_eq_true_eq]at h;obtain⟨h0,h1,h2,h3,h4,h5,h6,h7,h8,h9⟩:=h;refine⟨h0,h1,h2,h3,h4,h5,h6,h7,h8,fun a b=> ?_⟩
 rcases h9 with h9|h9|h9
 ·rw[a]at h9;exact absurd h9 (by simp)
 ·omega
 ·exact h9
theorem Xc {t:Nat-> Nat} {w:World} {τ k:Nat} (h:t k=τ):upT t w τ k=τ:=by
 unfold upT;split
 ·exact h
 ·rfl
theorem aI {α:Type} {b:Bool} {x:Option α} {y:α} (h:aV b x=some y):b=true/\ x=some y:=by
 unfold aV at h;split at h
 ·rename_i hb;exact⟨hb,h⟩
 ·exact absurd h (by simp)
theorem OB.markT {w:World} {base n c:Nat} {A:Option Addr} {l:Bs} (h:OB w base (.slice A n c) l) (t:Nat-> Nat) (W:World) (τ:Nat) (hb:W.heap.size<= base) (a:Addr) (ha:A=some a):upT t W τ a.block=τ:=by
 subst ha;rcases h.2 with⟨e,_⟩| ⟨g,cap,cur,fr,e,hg,_⟩
 ·simp at e
 ·simp only[Value.slice.injEq,Option.some.injEq]at e
  obtain⟨rfl,-,-⟩:=e;exact iO (by show W.heap.size<= g;omega)
section
variable (w:World) (t:Nat-> Nat) (m g:Nat) (cf:Cf) (tv:Value) (gs:Nat) (c:CnS) (tab:List En) (ms:Nat)
omit m g cf tv gs tab ms in
theorem uX {m g:Nat} {cf:Cf} {tv:Value} {gs gq gr gp bw:Nat} (w5:World) (A5:Option Addr) (c5:Nat) (hg:GL w t) (hm:10<= m) (h:pW w t m g cf tv gs c gq gr gp bw) (hok:Nl cf c) (L5:Below w.heap.size w w5) (ho:OB w5 w.heap.size (.slice A5 c.ring.length c5) c.ring) (hc5:c.ring.length<= c5) (hr5:Rd w5 w5.heap.size 1 A5 c.ring.length (c.ring.map bv)):
 ∃t6,Stp (fun _=>False) w t (w5.alloc (.cells #[.slice A5 c.ring.length c5] 33)) t6/\ Calls Tryz.prog 249 #[pV gp,.slice (some ⟨w5.heap.size,0,none⟩) 1 1] (w5.alloc (.cells #[.slice A5 c.ring.length c5] 33)) fun e w'=>
  e= .returned (.int .i64 ((aB c.p c.ring).1:Int))/\ ∃t',yY w' t' (m+12) gp (aB c.p c.ring).2/\ Stp (fun x=>x=m+12) (w5.alloc (.cells #[.slice A5 c.ring.length c5] 33)) t6 w' t':=by
 have hrl:c.ring.length<= 256:=by obtain⟨_,_,_,hB⟩:=h.r;exact hB.2.2.2.2.1
 have z5:=Stp.dB (t:=t) L5 (fun _=>False) 9
 have z6:=z5.trans (Stp.alloc w5 _ (fun _=>False) (.cells #[.slice A5 c.ring.length c5] 33) 9) fun _ h=>h
 have b6:=BT.new' w5 (upT t w 9) 9 w5.heap.size rfl 33 #[.slice A5 c.ring.length c5];have h6:=h.keep z6 fun _ _ h=>h
 refine⟨_,z6,WA _ _ (m+12) gp c.p h6.p (hg.keep z6 id).ml c.ring (some ⟨w5.heap.size,0,none⟩) 1 A5 c5 (by omega) hok.pf ⟨_,_,rfl,b6.lt,by rw[b6.m];omega,b6.b.cell 0⟩ hc5 ((hr5.ah (Nat.le_refl _) (aj (Below.refl w5.heap.size w5) _)).more (by simp)) fun a ha=> ?_⟩
 rw[Xc (ho.markT t w 9 (Nat.le_refl _) a ha)];omega
theorem Q8 (hg:GL w t) (hm:10<= m) (h:dK w t m g cf tv gs c) (hok:Nl cf c) (hf:lY cf c=true):
 Calls Tryz.prog 197 #[pV g] w fun e w'=>e= .returned (.bool true)/\ ∃t',dK w' t' m g cf tv gs { c with p:=(aB c.p c.ring).2,ring:=c.ring.drop (aB c.p c.ring).1,fed:=c.fed+(aB c.p c.ring).1 } /\ Stp (Mk m 20) w t w' t':=by
 have hF:=tq w t m g cf tv gs c h (by have:=hok.qp;omega) hok.pp
 rw[hf]at hF;go_enter Tryz.func197,Tryz.ntmps197
 go_wp2_with fail
 refine hF.mono ?_;rintro e w1 ⟨rfl,L1⟩;have s1:=Stp.below L1 (fun _=>False) t
 have hg1:=hg.keep s1 id;obtain⟨gq,gr,gp,bw,h1⟩:=h;have h1:=h1.keep s1 fun _ _ h=>h
 clear hF hg L1;go_upto_region 3 with(fail)
 have hle:=je c.ring c.p;have hfd:=hok.fd;have hrl:c.ring.length<= 256:=by obtain⟨_,_,_,hB⟩:=h1.r;exact hB.2.2.2.2.1
 have hI: ∀W tW,BT W tW m g 131 (uV cf tv gq gs gr gp bw c)-> W.cell? ⟨g,18,none⟩=some (pV gr)/\ W.cell? ⟨g,19,none⟩=some (pV gp):=fun W tW b=>⟨b.b.cell 18,b.b.cell 19⟩
 have hY: ∀W tW,BT W tW m g 131 (uV cf tv gq gs gr gp bw c)-> W.cell? ⟨g,23,none⟩=some (nV c.fed):=fun W tW b=>b.b.cell 23
 have zd:=(Stp.refl (fun _=>False) w1 t).drew
 have hd:=h1.keep zd fun _ _ h=>h
 have hgd:=hg1.keep zd id;have S0:=hI _ _ h1.b;have Sd:=hI _ _ hd.b;have Yd:=hY _ _ hd.b;have hL:=wG _ _ _ _ _ hd.r;have hP:=VO _ _ _ _ _ c.ring.length hd.r (Nat.le_refl _);rw[List.take_length]at hP;have hw1:IntKind.i64.wrap ((c.fed:Int)+((aB c.p c.ring).1:Int))=(c.fed:Int)+((aB c.p c.ring).1:Int):=IntWalk.i64_in _ (by omega)
 clear hrl hle hfd;refine wp_region_noPanic ?_;refine wp_region_held_drew (S:=fun W=>W.cell? ⟨g,18,none⟩=some (pV gr)/\ W.cell? ⟨g,19,none⟩=some (pV gp)) (by kernel_rfl) Sd (fun hHeld=> ?_)
 refine wpAnyH_take (i:=0) (v:= ?_) rfl (by kernel_rfl) (by kernel_rfl) (by kernel_rfl) (fun _ _ _ h=>h) (Or.inl ⟨by rfl,?_⟩) (by assumption) ?_
 rotate_left
 ·intro w9 hSw
  (try dsimp only at hSw)
  go_simp<;>with_reducible rfl
 (try simp only[Act.put,List.setIfInBounds_toArray])
 refine wpAnyH_take (i:=1) (v:= ?_) rfl (by kernel_rfl) (by kernel_rfl) (by kernel_rfl) (fun _ _ _ h=>h) (Or.inl ⟨by rfl,?_⟩) (by assumption) ?_
 rotate_left
 ·intro w9 hSw
  (try dsimp only at hSw)
  go_simp<;>with_reducible rfl
 (try simp only[Act.put,List.setIfInBounds_toArray])
 refine wpAnyH_take (i:=2) (v:= ?_) rfl (by kernel_rfl) (by kernel_rfl) (by kernel_rfl) (fun _ _ _ h=>h) (Or.inl ⟨by rfl,?_⟩) (by assumption) ?_
 rotate_left
 ·intro w9 hSw
  (try dsimp only at hSw)
  go_simp<;>with_reducible rfl
 (try simp only[Act.put,List.setIfInBounds_toArray])
 refine wpAnyH_take (i:=4) (v:= ?_) rfl (by kernel_rfl) (by kernel_rfl) (by kernel_rfl) (fun _ _ _ h=>h) (Or.inl ⟨by rfl,?_⟩) (by assumption) ?_
 rotate_left
 ·intro w9 hSw
  (try dsimp only at hSw)
  go_simp<;>with_reducible rfl
 (try simp only[Act.put,List.setIfInBounds_toArray])
 refine wpAnyH_take (i:=5) (v:= ?_) rfl (by kernel_rfl) (by kernel_rfl) (by kernel_rfl) (fun _ _ _ h=>h) (Or.inl ⟨by rfl,?_⟩) (by assumption) ?_
 rotate_left
 ·intro w9 hSw
  (try dsimp only at hSw)
  go_simp<;>with_reducible rfl
 (try simp only[Act.put,List.setIfInBounds_toArray])
 refine wpAnyH_take (i:=6) (v:= ?_) rfl (by kernel_rfl) (by kernel_rfl) (by kernel_rfl) (fun _ _ _ h=>h) (Or.inl ⟨by rfl,?_⟩) (by assumption) ?_
 rotate_left
 ·intro w9 hSw
  (try dsimp only at hSw)
  go_simp<;>with_reducible rfl
 (try simp only[Act.put,List.setIfInBounds_toArray])
 refine wpAnyH_take (i:=7) (v:= ?_) rfl (by kernel_rfl) (by kernel_rfl) (by kernel_rfl) (fun _ _ _ h=>h) (Or.inl ⟨by rfl,?_⟩) (by assumption) ?_
 rotate_left
 ·intro w9 hSw
  (try dsimp only at hSw)
  go_simp<;>with_reducible rfl
 (try simp only[Act.put,List.setIfInBounds_toArray])
 refine wpAnyH_take (i:=8) (v:= ?_) rfl (by kernel_rfl) (by kernel_rfl) (by kernel_rfl) (fun _ _ _ h=>h) (Or.inl ⟨by rfl,?_⟩) (by assumption) ?_
 rotate_left
 ·intro w9 hSw
  (try dsimp only at hSw)
  go_simp<;>with_reducible rfl
 (try simp only[Act.put,List.setIfInBounds_toArray])
 refine wpAnyH_take (i:=9) (v:= ?_) rfl (by kernel_rfl) (by kernel_rfl) (by kernel_rfl) (fun _ _ _ h=>h) (Or.inl ⟨by rfl,?_⟩) (by assumption) ?_
 rotate_left
 ·intro w9 hSw
  (try dsimp only at hSw)
  go_simp<;>with_reducible rfl
 (try simp only[Act.put,List.setIfInBounds_toArray])
 refine wpAnyH_take (i:=10) (v:= ?_) rfl (by kernel_rfl) (by kernel_rfl) (by kernel_rfl) (fun _ _ _ h=>h) (Or.inl ⟨by rfl,?_⟩) (by assumption) ?_
 rotate_left
 ·intro w9 hSw
  (try dsimp only at hSw)
  go_simp<;>with_reducible rfl
 (try simp only[Act.put,List.setIfInBounds_toArray])
 refine wpAnyH_take (i:=11) (v:= ?_) rfl (by kernel_rfl) (by kernel_rfl) (by kernel_rfl) (fun _ _ _ h=>h) (Or.inl ⟨by rfl,?_⟩) (by assumption) ?_
 rotate_left
 ·intro w9 hSw
  (try dsimp only at hSw)
  go_simp<;>with_reducible rfl
 (try simp only[Act.put,List.setIfInBounds_toArray])
 refine wpAnyH_take (i:=12) (v:= ?_) rfl (by kernel_rfl) (by kernel_rfl) (by kernel_rfl) (fun _ _ _ h=>h) (Or.inl ⟨by rfl,?_⟩) (by assumption) ?_
 rotate_left
 ·intro w9 hSw
  (try dsimp only at hSw)
  go_simp<;>with_reducible rfl
 (try simp only[Act.put,List.setIfInBounds_toArray])
 refine wpAnyH_take (i:=13) (v:= ?_) rfl (by kernel_rfl) (by kernel_rfl) (by kernel_rfl) (fun _ _ _ h=>h) (Or.inl ⟨by rfl,?_⟩) (by assumption) ?_
 rotate_left
 ·intro w9 hSw
  (try dsimp only at hSw)
  go_simp<;>with_reducible rfl
 (try simp only[Act.put,List.setIfInBounds_toArray])
 refine wpAnyH_take (i:=14) (v:= ?_) rfl (by kernel_rfl) (by kernel_rfl) (by kernel_rfl) (fun _ _ _ h=>h) (Or.inl ⟨by rfl,?_⟩) (by assumption) ?_
 rotate_left
 ·intro w9 hSw
  (try dsimp only at hSw)
  go_simp<;>with_reducible rfl
 (try simp only[Act.put,List.setIfInBounds_toArray])
 refine wpAnyH_take (i:=15) (v:= ?_) rfl (by kernel_rfl) (by kernel_rfl) (by kernel_rfl) (fun _ _ _ h=>h) (Or.inl ⟨by rfl,?_⟩) (by assumption) ?_
 rotate_left
 ·intro w9 hSw
  (try dsimp only at hSw)
  go_simp<;>with_reducible rfl
 (try simp only[Act.put,List.setIfInBounds_toArray])
 refine wpAnyH_take (i:=16) (v:= ?_) rfl (by kernel_rfl) (by kernel_rfl) (by kernel_rfl) (fun _ _ _ h=>h) (Or.inl ⟨by rfl,?_⟩) (by assumption) ?_
 rotate_left
 ·intro w9 hSw
  (try dsimp only at hSw)
  go_simp<;>with_reducible rfl
 (try simp only[Act.put,List.setIfInBounds_toArray])
 refine wpAnyH_take (i:=17) (v:= ?_) rfl (by kernel_rfl) (by kernel_rfl) (by kernel_rfl) (fun _ _ _ h=>h) (Or.inl ⟨by rfl,?_⟩) (by assumption) ?_
 rotate_left
 ·intro w9 hSw
  (try dsimp only at hSw)
  go_simp<;>with_reducible rfl
 (try simp only[Act.put,List.setIfInBounds_toArray])
 refine wpAnyH_take (i:=18) (v:= ?_) rfl (by kernel_rfl) (by kernel_rfl) (by kernel_rfl) (fun _ _ _ h=>h) (Or.inl ⟨by rfl,?_⟩) (by assumption) ?_
 rotate_left
 ·intro w9 hSw
  (try dsimp only at hSw)
  go_simp<;>with_reducible rfl
 (try simp only[Act.put,List.setIfInBounds_toArray])
 refine wpAnyH_take (i:=19) (v:= ?_) rfl (by kernel_rfl) (by kernel_rfl) (by kernel_rfl) (fun _ _ _ h=>h) (Or.inl ⟨by rfl,?_⟩) (by assumption) ?_
 rotate_left
 ·intro w9 hSw
  (try dsimp only at hSw)
  go_simp<;>with_reducible rfl
 (try simp only[Act.put,List.setIfInBounds_toArray])
 refine wpAnyH_ready (rs:= [3,20]) (by kernel_rfl) (by simp) ?_
 refine AllReadyH.cons rfl (fun K9 hK9=> ?_) (AllReadyH.cons rfl (fun K9 hK9=> ?_) AllReadyH.nil)
 ·
  go_simp
  refine hK9.out _ _ Sd (fun hHeld=> ?_)
  clear hK9 K9
  (try simp only[Act.put,List.setIfInBounds_toArray,List.set_cons_zero,List.set_cons_succ])
  refine wpAnyH_ready (rs:= [20]) (by kernel_rfl) (by simp) ?_
  refine AllReadyH.cons rfl (fun K9 hK9=> ?_) AllReadyH.nil
  go_simp
  go_at_call 199
  refine hL.mono ?_;rintro e w2 ⟨rfl,rfl⟩;go_wp2_with fail
  refine hK9.out _ _ Sd (fun hHeld=> ?_)
  clear hK9 K9
  (try simp only[Act.put,List.setIfInBounds_toArray,List.set_cons_zero,List.set_cons_succ])
  refine wpAnyH_ready (rs:= [21]) (by kernel_rfl) (by simp) ?_
  refine AllReadyH.cons rfl (fun K9 hK9=> ?_) AllReadyH.nil
  go_simp
  go_at_call 250
  refine hP.mono ?_;rintro e w5 ⟨v5,rfl,ho5,L5⟩;obtain⟨A5,c5,rfl,hc5,-,hr5⟩:=ho5.form;have X5:=hI _ _ (hd.b.ah L5);have Y5:=hY _ _ (hd.b.ah L5);obtain⟨t6,z6,hF6⟩:=uX w1.drew t c w5 A5 c5 hgd hm hd hok L5 ho5 hc5 hr5;have h6:=hd.keep z6 fun _ _ h=>h
  have X6:=hI _ _ h6.b;have Y6:=hY _ _ h6.b;go_wp2_with fail
  refine hK9.out _ _ X5 (fun hHeld=> ?_)
  clear hK9 K9
  (try simp only[Act.put,List.setIfInBounds_toArray,List.set_cons_zero,List.set_cons_succ])
  refine wpAnyH_ready (rs:= [22]) (by kernel_rfl) (by simp) ?_
  refine AllReadyH.cons rfl (fun K9 hK9=> ?_) AllReadyH.nil
  go_simp
  refine hK9.out _ _ X6 (fun hHeld=> ?_)
  clear hK9 K9
  (try simp only[Act.put,List.setIfInBounds_toArray,List.set_cons_zero,List.set_cons_succ])
  refine wpAnyH_ready (rs:= [23]) (by kernel_rfl) (by simp) ?_
  refine AllReadyH.cons rfl (fun K9 hK9=> ?_) AllReadyH.nil
  go_simp
  go_at_call 249
  refine hF6.mono ?_;rintro e w7 ⟨rfl,t7,hp7,s7⟩;have b7:=h6.b.keep s7 (by omega)
  have r7:=h6.r.keep s7 (by omega) (by omega)
  have q7:=h6.q.keep s7 (by omega) (by omega) (by omega)
  have m7:=h6.w.keep s7 (by omega)
  have X7:=hI _ _ b7;have Y7:=hY _ _ b7;have hK:=qQ w7 t7 (m+8) gr c.ring (aB c.p c.ring).1 r7 (je c.ring c.p);go_wp2_with fail
  refine hK9.out _ _ X7 (fun hHeld=> ?_)
  clear hK9 K9
  (try simp only[Act.put,List.setIfInBounds_toArray,List.set_cons_zero,List.set_cons_succ])
  refine wpAnyH_ready (rs:= [24]) (by kernel_rfl) (by simp) ?_
  refine AllReadyH.cons rfl (fun K9 hK9=> ?_) AllReadyH.nil
  go_simp
  go_at_call 248
  refine hK.mono ?_;rintro e w8 ⟨rfl,t8,r8,s8⟩;have b8:=b7.keep s8 (by omega)
  have q8:=q7.keep s8 (by omega) (by omega) (by omega)
  have m8:=m7.keep s8 (by omega)
  have p8:=hp7.keep s8 (by omega)
  have X8:=hI _ _ b8;have Y8:=hY _ _ b8;have f8:w8.frozen? ⟨g,23,none⟩=false:=b8.b.frozen 23;have b9:=(b8.aH 23 (.int .i64 ((c.fed:Int)+((aB c.p c.ring).1:Int)))).1;have X9:(w8.setCell ⟨g,23,none⟩ (.int .i64 ((c.fed:Int)+((aB c.p c.ring).1:Int)))).cell? ⟨g,18,none⟩=some (pV gr)/\ (w8.setCell ⟨g,23,none⟩ (.int .i64 ((c.fed:Int)+((aB c.p c.ring).1:Int)))).cell? ⟨g,19,none⟩=some (pV gp):=⟨b9.b.cell 18,b9.b.cell 19⟩;have z9:=(b8.aH 23 (.int .i64 ((c.fed:Int)+((aB c.p c.ring).1:Int)))).2;have h9:pW (w8.setCell ⟨g,23,none⟩ (.int .i64 ((c.fed:Int)+((aB c.p c.ring).1:Int)))) t8 m g cf tv gs { c with p:=(aB c.p c.ring).2,ring:=c.ring.drop (aB c.p c.ring).1,fed:=c.fed+(aB c.p c.ring).1 } gq gr gp bw:=⟨b9.to rfl,q8.keep z9 (by omega) (by omega) (by omega),r8.keep z9 (by omega) (by omega),p8.keep z9 (by omega),m8.keep z9 (by omega)⟩
  have sF:=(((((s1.trans zd fun _ h=>h).trans z6 fun _ h=>h).mono (S':=Mk m 20) fun _ h=>h.elim).trans s7 fun y (h:y=m+12)=>(show Mk m 20 y by omega)).trans s8 fun y (h:Mk (m+8) 2 y)=>(show Mk m 20 y by omega)).trans z9 fun y (h:y=m)=>(show Mk m 20 y by omega)
  clear hK hF6 h6 X6 Y6 X7 b7 r7 q7 m7 s7 s8 z6 hp7 b9 q8 m8 p8 r8 z9;go_wp2_with fail
  refine hK9.out _ _ X8 (fun hHeld=> ?_)
  clear hK9 K9
  (try simp only[Act.put,List.setIfInBounds_toArray,List.set_cons_zero,List.set_cons_succ])
  refine wpAnyH_take (i:=25) (v:= ?_) rfl (by kernel_rfl) (by kernel_rfl) (by kernel_rfl) (fun _ _ _ h=>h) (Or.inl ⟨by rfl,?_⟩) (by assumption) ?_
  rotate_left
  ·intro w9 hSw
   (try dsimp only at hSw)
   go_simp<;>with_reducible rfl
  (try simp only[Act.put,List.setIfInBounds_toArray])
  refine wpAnyH_take (i:=26) (v:= ?_) rfl (by kernel_rfl) (by kernel_rfl) (by kernel_rfl) (fun _ _ _ h=>h) (Or.inl ⟨by rfl,?_⟩) (by assumption) ?_
  rotate_left
  ·intro w9 hSw
   (try dsimp only at hSw)
   go_simp<;>with_reducible rfl
  (try simp only[Act.put,List.setIfInBounds_toArray])
  refine wpAnyH_take (i:=27) (v:= ?_) rfl (by kernel_rfl) (by kernel_rfl) (by kernel_rfl) (fun _ _ _ h=>h) (Or.inl ⟨by rfl,?_⟩) (by assumption) ?_
  rotate_left
  ·intro w9 hSw
   (try dsimp only at hSw)
   go_simp<;>with_reducible rfl
  (try simp only[Act.put,List.setIfInBounds_toArray])
  refine wpAnyH_ready (rs:= [28]) (by kernel_rfl) (by simp) ?_
  refine AllReadyH.cons rfl (fun K9 hK9=> ?_) AllReadyH.nil
  go_simp
  refine hK9.out _ _ X9 (fun hHeld=> ?_)
  clear hK9 K9
  (try simp only[Act.put,List.setIfInBounds_toArray,List.set_cons_zero,List.set_cons_succ])
  refine wpAnyH_done (by kernel_rfl) ?_ _
  refine NoPanic.normal ?_;go_wp2_with fail
  go_ret
  exact⟨rfl,t8,⟨gq,gr,gp,bw,h9⟩,sF⟩
 ·
  go_simp
  go_at_call 199
  refine hL.mono ?_;rintro e w2 ⟨rfl,rfl⟩;go_wp2_with fail
  refine hK9.out _ _ Sd (fun hHeld=> ?_)
  clear hK9 K9
  (try simp only[Act.put,List.setIfInBounds_toArray,List.set_cons_zero,List.set_cons_succ])
  refine wpAnyH_ready (rs:= [3,21]) (by kernel_rfl) (by simp) ?_
  refine AllReadyH.cons rfl (fun K9 hK9=> ?_) (AllReadyH.cons rfl (fun K9 hK9=> ?_) AllReadyH.nil)
  ·
   go_simp
   refine hK9.out _ _ Sd (fun hHeld=> ?_)
   clear hK9 K9
   (try simp only[Act.put,List.setIfInBounds_toArray,List.set_cons_zero,List.set_cons_succ])
   refine wpAnyH_ready (rs:= [21]) (by kernel_rfl) (by simp) ?_
   refine AllReadyH.cons rfl (fun K9 hK9=> ?_) AllReadyH.nil
   go_simp
   go_at_call 250
   refine hP.mono ?_;rintro e w5 ⟨v5,rfl,ho5,L5⟩;obtain⟨A5,c5,rfl,hc5,-,hr5⟩:=ho5.form;have X5:=hI _ _ (hd.b.ah L5);have Y5:=hY _ _ (hd.b.ah L5);obtain⟨t6,z6,hF6⟩:=uX w1.drew t c w5 A5 c5 hgd hm hd hok L5 ho5 hc5 hr5;have h6:=hd.keep z6 fun _ _ h=>h
   have X6:=hI _ _ h6.b;have Y6:=hY _ _ h6.b;go_wp2_with fail
   refine hK9.out _ _ X5 (fun hHeld=> ?_)
   clear hK9 K9
   (try simp only[Act.put,List.setIfInBounds_toArray,List.set_cons_zero,List.set_cons_succ])
   refine wpAnyH_ready (rs:= [22]) (by kernel_rfl) (by simp) ?_
   refine AllReadyH.cons rfl (fun K9 hK9=> ?_) AllReadyH.nil
   go_simp
   refine hK9.out _ _ X6 (fun hHeld=> ?_)
   clear hK9 K9
   (try simp only[Act.put,List.setIfInBounds_toArray,List.set_cons_zero,List.set_cons_succ])
   refine wpAnyH_ready (rs:= [23]) (by kernel_rfl) (by simp) ?_
   refine AllReadyH.cons rfl (fun K9 hK9=> ?_) AllReadyH.nil
   go_simp
   go_at_call 249
   refine hF6.mono ?_;rintro e w7 ⟨rfl,t7,hp7,s7⟩;have b7:=h6.b.keep s7 (by omega)
   have r7:=h6.r.keep s7 (by omega) (by omega)
   have q7:=h6.q.keep s7 (by omega) (by omega) (by omega)
   have m7:=h6.w.keep s7 (by omega)
   have X7:=hI _ _ b7;have Y7:=hY _ _ b7;have hK:=qQ w7 t7 (m+8) gr c.ring (aB c.p c.ring).1 r7 (je c.ring c.p);go_wp2_with fail
   refine hK9.out _ _ X7 (fun hHeld=> ?_)
   clear hK9 K9
   (try simp only[Act.put,List.setIfInBounds_toArray,List.set_cons_zero,List.set_cons_succ])
   refine wpAnyH_ready (rs:= [24]) (by kernel_rfl) (by simp) ?_
   refine AllReadyH.cons rfl (fun K9 hK9=> ?_) AllReadyH.nil
   go_simp
   go_at_call 248
   refine hK.mono ?_;rintro e w8 ⟨rfl,t8,r8,s8⟩;have b8:=b7.keep s8 (by omega)
   have q8:=q7.keep s8 (by omega) (by omega) (by omega)
   have m8:=m7.keep s8 (by omega)
   have p8:=hp7.keep s8 (by omega)
   have X8:=hI _ _ b8;have Y8:=hY _ _ b8;have f8:w8.frozen? ⟨g,23,none⟩=false:=b8.b.frozen 23;have b9:=(b8.aH 23 (.int .i64 ((c.fed:Int)+((aB c.p c.ring).1:Int)))).1;have X9:(w8.setCell ⟨g,23,none⟩ (.int .i64 ((c.fed:Int)+((aB c.p c.ring).1:Int)))).cell? ⟨g,18,none⟩=some (pV gr)/\ (w8.setCell ⟨g,23,none⟩ (.int .i64 ((c.fed:Int)+((aB c.p c.ring).1:Int)))).cell? ⟨g,19,none⟩=some (pV gp):=⟨b9.b.cell 18,b9.b.cell 19⟩;have z9:=(b8.aH 23 (.int .i64 ((c.fed:Int)+((aB c.p c.ring).1:Int)))).2;have h9:pW (w8.setCell ⟨g,23,none⟩ (.int .i64 ((c.fed:Int)+((aB c.p c.ring).1:Int)))) t8 m g cf tv gs { c with p:=(aB c.p c.ring).2,ring:=c.ring.drop (aB c.p c.ring).1,fed:=c.fed+(aB c.p c.ring).1 } gq gr gp bw:=⟨b9.to rfl,q8.keep z9 (by omega) (by omega) (by omega),r8.keep z9 (by omega) (by omega),p8.keep z9 (by omega),m8.keep z9 (by omega)⟩
   have sF:=(((((s1.trans zd fun _ h=>h).trans z6 fun _ h=>h).mono (S':=Mk m 20) fun _ h=>h.elim).trans s7 fun y (h:y=m+12)=>(show Mk m 20 y by omega)).trans s8 fun y (h:Mk (m+8) 2 y)=>(show Mk m 20 y by omega)).trans z9 fun y (h:y=m)=>(show Mk m 20 y by omega)
   clear hK hF6 h6 X6 Y6 X7 b7 r7 q7 m7 s7 s8 z6 hp7 b9 q8 m8 p8 r8 z9;go_wp2_with fail
   refine hK9.out _ _ X8 (fun hHeld=> ?_)
   clear hK9 K9
   (try simp only[Act.put,List.setIfInBounds_toArray,List.set_cons_zero,List.set_cons_succ])
   refine wpAnyH_take (i:=25) (v:= ?_) rfl (by kernel_rfl) (by kernel_rfl) (by kernel_rfl) (fun _ _ _ h=>h) (Or.inl ⟨by rfl,?_⟩) (by assumption) ?_
   rotate_left
   ·intro w9 hSw
    (try dsimp only at hSw)
    go_simp<;>with_reducible rfl
   (try simp only[Act.put,List.setIfInBounds_toArray])
   refine wpAnyH_take (i:=26) (v:= ?_) rfl (by kernel_rfl) (by kernel_rfl) (by kernel_rfl) (fun _ _ _ h=>h) (Or.inl ⟨by rfl,?_⟩) (by assumption) ?_
   rotate_left
   ·intro w9 hSw
    (try dsimp only at hSw)
    go_simp<;>with_reducible rfl
   (try simp only[Act.put,List.setIfInBounds_toArray])
   refine wpAnyH_take (i:=27) (v:= ?_) rfl (by kernel_rfl) (by kernel_rfl) (by kernel_rfl) (fun _ _ _ h=>h) (Or.inl ⟨by rfl,?_⟩) (by assumption) ?_
   rotate_left
   ·intro w9 hSw
    (try dsimp only at hSw)
    go_simp<;>with_reducible rfl
   (try simp only[Act.put,List.setIfInBounds_toArray])
   refine wpAnyH_ready (rs:= [28]) (by kernel_rfl) (by simp) ?_
   refine AllReadyH.cons rfl (fun K9 hK9=> ?_) AllReadyH.nil
   go_simp
   refine hK9.out _ _ X9 (fun hHeld=> ?_)
   clear hK9 K9
   (try simp only[Act.put,List.setIfInBounds_toArray,List.set_cons_zero,List.set_cons_succ])
   refine wpAnyH_done (by kernel_rfl) ?_ _
   refine NoPanic.normal ?_;go_wp2_with fail
   go_ret
   exact⟨rfl,t8,⟨gq,gr,gp,bw,h9⟩,sF⟩
  ·
   go_simp
   go_at_call 250
   refine hP.mono ?_;rintro e w5 ⟨v5,rfl,ho5,L5⟩;obtain⟨A5,c5,rfl,hc5,-,hr5⟩:=ho5.form;have X5:=hI _ _ (hd.b.ah L5);have Y5:=hY _ _ (hd.b.ah L5);obtain⟨t6,z6,hF6⟩:=uX w1.drew t c w5 A5 c5 hgd hm hd hok L5 ho5 hc5 hr5;have h6:=hd.keep z6 fun _ _ h=>h
   have X6:=hI _ _ h6.b;have Y6:=hY _ _ h6.b;go_wp2_with fail
   refine hK9.out _ _ X5 (fun hHeld=> ?_)
   clear hK9 K9
   (try simp only[Act.put,List.setIfInBounds_toArray,List.set_cons_zero,List.set_cons_succ])
   refine wpAnyH_ready (rs:= [3,22]) (by kernel_rfl) (by simp) ?_
   refine AllReadyH.cons rfl (fun K9 hK9=> ?_) (AllReadyH.cons rfl (fun K9 hK9=> ?_) AllReadyH.nil)
   ·
    go_simp
    refine hK9.out _ _ X5 (fun hHeld=> ?_)
    clear hK9 K9
    (try simp only[Act.put,List.setIfInBounds_toArray,List.set_cons_zero,List.set_cons_succ])
    refine wpAnyH_ready (rs:= [22]) (by kernel_rfl) (by simp) ?_
    refine AllReadyH.cons rfl (fun K9 hK9=> ?_) AllReadyH.nil
    go_simp
    refine hK9.out _ _ X6 (fun hHeld=> ?_)
    clear hK9 K9
    (try simp only[Act.put,List.setIfInBounds_toArray,List.set_cons_zero,List.set_cons_succ])
    refine wpAnyH_ready (rs:= [23]) (by kernel_rfl) (by simp) ?_
    refine AllReadyH.cons rfl (fun K9 hK9=> ?_) AllReadyH.nil
    go_simp
    go_at_call 249
    refine hF6.mono ?_;rintro e w7 ⟨rfl,t7,hp7,s7⟩;have b7:=h6.b.keep s7 (by omega)
    have r7:=h6.r.keep s7 (by omega) (by omega)
    have q7:=h6.q.keep s7 (by omega) (by omega) (by omega)
    have m7:=h6.w.keep s7 (by omega)
    have X7:=hI _ _ b7;have Y7:=hY _ _ b7;have hK:=qQ w7 t7 (m+8) gr c.ring (aB c.p c.ring).1 r7 (je c.ring c.p);go_wp2_with fail
    refine hK9.out _ _ X7 (fun hHeld=> ?_)
    clear hK9 K9
    (try simp only[Act.put,List.setIfInBounds_toArray,List.set_cons_zero,List.set_cons_succ])
    refine wpAnyH_ready (rs:= [24]) (by kernel_rfl) (by simp) ?_
    refine AllReadyH.cons rfl (fun K9 hK9=> ?_) AllReadyH.nil
    go_simp
    go_at_call 248
    refine hK.mono ?_;rintro e w8 ⟨rfl,t8,r8,s8⟩;have b8:=b7.keep s8 (by omega)
    have q8:=q7.keep s8 (by omega) (by omega) (by omega)
    have m8:=m7.keep s8 (by omega)
    have p8:=hp7.keep s8 (by omega)
    have X8:=hI _ _ b8;have Y8:=hY _ _ b8;have f8:w8.frozen? ⟨g,23,none⟩=false:=b8.b.frozen 23;have b9:=(b8.aH 23 (.int .i64 ((c.fed:Int)+((aB c.p c.ring).1:Int)))).1;have X9:(w8.setCell ⟨g,23,none⟩ (.int .i64 ((c.fed:Int)+((aB c.p c.ring).1:Int)))).cell? ⟨g,18,none⟩=some (pV gr)/\ (w8.setCell ⟨g,23,none⟩ (.int .i64 ((c.fed:Int)+((aB c.p c.ring).1:Int)))).cell? ⟨g,19,none⟩=some (pV gp):=⟨b9.b.cell 18,b9.b.cell 19⟩;have z9:=(b8.aH 23 (.int .i64 ((c.fed:Int)+((aB c.p c.ring).1:Int)))).2;have h9:pW (w8.setCell ⟨g,23,none⟩ (.int .i64 ((c.fed:Int)+((aB c.p c.ring).1:Int)))) t8 m g cf tv gs { c with p:=(aB c.p c.ring).2,ring:=c.ring.drop (aB c.p c.ring).1,fed:=c.fed+(aB c.p c.ring).1 } gq gr gp bw:=⟨b9.to rfl,q8.keep z9 (by omega) (by omega) (by omega),r8.keep z9 (by omega) (by omega),p8.keep z9 (by omega),m8.keep z9 (by omega)⟩
    have sF:=(((((s1.trans zd fun _ h=>h).trans z6 fun _ h=>h).mono (S':=Mk m 20) fun _ h=>h.elim).trans s7 fun y (h:y=m+12)=>(show Mk m 20 y by omega)).trans s8 fun y (h:Mk (m+8) 2 y)=>(show Mk m 20 y by omega)).trans z9 fun y (h:y=m)=>(show Mk m 20 y by omega)
    clear hK hF6 h6 X6 Y6 X7 b7 r7 q7 m7 s7 s8 z6 hp7 b9 q8 m8 p8 r8 z9;go_wp2_with fail
    refine hK9.out _ _ X8 (fun hHeld=> ?_)
    clear hK9 K9
    (try simp only[Act.put,List.setIfInBounds_toArray,List.set_cons_zero,List.set_cons_succ])
    refine wpAnyH_take (i:=25) (v:= ?_) rfl (by kernel_rfl) (by kernel_rfl) (by kernel_rfl) (fun _ _ _ h=>h) (Or.inl ⟨by rfl,?_⟩) (by assumption) ?_
    rotate_left
    ·intro w9 hSw
     (try dsimp only at hSw)
     go_simp<;>with_reducible rfl
    (try simp only[Act.put,List.setIfInBounds_toArray])
    refine wpAnyH_take (i:=26) (v:= ?_) rfl (by kernel_rfl) (by kernel_rfl) (by kernel_rfl) (fun _ _ _ h=>h) (Or.inl ⟨by rfl,?_⟩) (by assumption) ?_
    rotate_left
    ·intro w9 hSw
     (try dsimp only at hSw)
     go_simp<;>with_reducible rfl
    (try simp only[Act.put,List.setIfInBounds_toArray])
    refine wpAnyH_take (i:=27) (v:= ?_) rfl (by kernel_rfl) (by kernel_rfl) (by kernel_rfl) (fun _ _ _ h=>h) (Or.inl ⟨by rfl,?_⟩) (by assumption) ?_
    rotate_left
    ·intro w9 hSw
     (try dsimp only at hSw)
     go_simp<;>with_reducible rfl
    (try simp only[Act.put,List.setIfInBounds_toArray])
    refine wpAnyH_ready (rs:= [28]) (by kernel_rfl) (by simp) ?_
    refine AllReadyH.cons rfl (fun K9 hK9=> ?_) AllReadyH.nil
    go_simp
    refine hK9.out _ _ X9 (fun hHeld=> ?_)
    clear hK9 K9
    (try simp only[Act.put,List.setIfInBounds_toArray,List.set_cons_zero,List.set_cons_succ])
    refine wpAnyH_done (by kernel_rfl) ?_ _
    refine NoPanic.normal ?_;go_wp2_with fail
    go_ret
    exact⟨rfl,t8,⟨gq,gr,gp,bw,h9⟩,sF⟩
   ·
    go_simp
    refine hK9.out _ _ X6 (fun hHeld=> ?_)
    clear hK9 K9
    (try simp only[Act.put,List.setIfInBounds_toArray,List.set_cons_zero,List.set_cons_succ])
    refine wpAnyH_ready (rs:= [3,23]) (by kernel_rfl) (by simp) ?_
    refine AllReadyH.cons rfl (fun K9 hK9=> ?_) (AllReadyH.cons rfl (fun K9 hK9=> ?_) AllReadyH.nil)
    ·
     go_simp
     refine hK9.out _ _ X6 (fun hHeld=> ?_)
     clear hK9 K9
     (try simp only[Act.put,List.setIfInBounds_toArray,List.set_cons_zero,List.set_cons_succ])
     refine wpAnyH_ready (rs:= [23]) (by kernel_rfl) (by simp) ?_
     refine AllReadyH.cons rfl (fun K9 hK9=> ?_) AllReadyH.nil
     go_simp
     go_at_call 249
     refine hF6.mono ?_;rintro e w7 ⟨rfl,t7,hp7,s7⟩;have b7:=h6.b.keep s7 (by omega)
     have r7:=h6.r.keep s7 (by omega) (by omega)
     have q7:=h6.q.keep s7 (by omega) (by omega) (by omega)
     have m7:=h6.w.keep s7 (by omega)
     have X7:=hI _ _ b7;have Y7:=hY _ _ b7;have hK:=qQ w7 t7 (m+8) gr c.ring (aB c.p c.ring).1 r7 (je c.ring c.p);go_wp2_with fail
     refine hK9.out _ _ X7 (fun hHeld=> ?_)
     clear hK9 K9
     (try simp only[Act.put,List.setIfInBounds_toArray,List.set_cons_zero,List.set_cons_succ])
     refine wpAnyH_ready (rs:= [24]) (by kernel_rfl) (by simp) ?_
     refine AllReadyH.cons rfl (fun K9 hK9=> ?_) AllReadyH.nil
     go_simp
     go_at_call 248
     refine hK.mono ?_;rintro e w8 ⟨rfl,t8,r8,s8⟩;have b8:=b7.keep s8 (by omega)
     have q8:=q7.keep s8 (by omega) (by omega) (by omega)
     have m8:=m7.keep s8 (by omega)
     have p8:=hp7.keep s8 (by omega)
     have X8:=hI _ _ b8;have Y8:=hY _ _ b8;have f8:w8.frozen? ⟨g,23,none⟩=false:=b8.b.frozen 23;have b9:=(b8.aH 23 (.int .i64 ((c.fed:Int)+((aB c.p c.ring).1:Int)))).1;have X9:(w8.setCell ⟨g,23,none⟩ (.int .i64 ((c.fed:Int)+((aB c.p c.ring).1:Int)))).cell? ⟨g,18,none⟩=some (pV gr)/\ (w8.setCell ⟨g,23,none⟩ (.int .i64 ((c.fed:Int)+((aB c.p c.ring).1:Int)))).cell? ⟨g,19,none⟩=some (pV gp):=⟨b9.b.cell 18,b9.b.cell 19⟩;have z9:=(b8.aH 23 (.int .i64 ((c.fed:Int)+((aB c.p c.ring).1:Int)))).2;have h9:pW (w8.setCell ⟨g,23,none⟩ (.int .i64 ((c.fed:Int)+((aB c.p c.ring).1:Int)))) t8 m g cf tv gs { c with p:=(aB c.p c.ring).2,ring:=c.ring.drop (aB c.p c.ring).1,fed:=c.fed+(aB c.p c.ring).1 } gq gr gp bw:=⟨b9.to rfl,q8.keep z9 (by omega) (by omega) (by omega),r8.keep z9 (by omega) (by omega),p8.keep z9 (by omega),m8.keep z9 (by omega)⟩
     have sF:=(((((s1.trans zd fun _ h=>h).trans z6 fun _ h=>h).mono (S':=Mk m 20) fun _ h=>h.elim).trans s7 fun y (h:y=m+12)=>(show Mk m 20 y by omega)).trans s8 fun y (h:Mk (m+8) 2 y)=>(show Mk m 20 y by omega)).trans z9 fun y (h:y=m)=>(show Mk m 20 y by omega)
     clear hK hF6 h6 X6 Y6 X7 b7 r7 q7 m7 s7 s8 z6 hp7 b9 q8 m8 p8 r8 z9;go_wp2_with fail
     refine hK9.out _ _ X8 (fun hHeld=> ?_)
     clear hK9 K9
     (try simp only[Act.put,List.setIfInBounds_toArray,List.set_cons_zero,List.set_cons_succ])
     refine wpAnyH_take (i:=25) (v:= ?_) rfl (by kernel_rfl) (by kernel_rfl) (by kernel_rfl) (fun _ _ _ h=>h) (Or.inl ⟨by rfl,?_⟩) (by assumption) ?_
     rotate_left
     ·intro w9 hSw
      (try dsimp only at hSw)
      go_simp<;>with_reducible rfl
     (try simp only[Act.put,List.setIfInBounds_toArray])
     refine wpAnyH_take (i:=26) (v:= ?_) rfl (by kernel_rfl) (by kernel_rfl) (by kernel_rfl) (fun _ _ _ h=>h) (Or.inl ⟨by rfl,?_⟩) (by assumption) ?_
     rotate_left
     ·intro w9 hSw
      (try dsimp only at hSw)
      go_simp<;>with_reducible rfl
     (try simp only[Act.put,List.setIfInBounds_toArray])
     refine wpAnyH_take (i:=27) (v:= ?_) rfl (by kernel_rfl) (by kernel_rfl) (by kernel_rfl) (fun _ _ _ h=>h) (Or.inl ⟨by rfl,?_⟩) (by assumption) ?_
     rotate_left
     ·intro w9 hSw
      (try dsimp only at hSw)
      go_simp<;>with_reducible rfl
     (try simp only[Act.put,List.setIfInBounds_toArray])
     refine wpAnyH_ready (rs:= [28]) (by kernel_rfl) (by simp) ?_
     refine AllReadyH.cons rfl (fun K9 hK9=> ?_) AllReadyH.nil
     go_simp
     refine hK9.out _ _ X9 (fun hHeld=> ?_)
     clear hK9 K9
     (try simp only[Act.put,List.setIfInBounds_toArray,List.set_cons_zero,List.set_cons_succ])
     refine wpAnyH_done (by kernel_rfl) ?_ _
     refine NoPanic.normal ?_;go_wp2_with fail
     go_ret
     exact⟨rfl,t8,⟨gq,gr,gp,bw,h9⟩,sF⟩
    ·
     go_simp
     go_at_call 249
     refine hF6.mono ?_;rintro e w7 ⟨rfl,t7,hp7,s7⟩;have b7:=h6.b.keep s7 (by omega)
     have r7:=h6.r.keep s7 (by omega) (by omega)
     have q7:=h6.q.keep s7 (by omega) (by omega) (by omega)
     have m7:=h6.w.keep s7 (by omega)
     have X7:=hI _ _ b7;have Y7:=hY _ _ b7;have hK:=qQ w7 t7 (m+8) gr c.ring (aB c.p c.ring).1 r7 (je c.ring c.p);go_wp2_with fail
     refine hK9.out _ _ X7 (fun hHeld=> ?_)
     clear hK9 K9
     (try simp only[Act.put,List.setIfInBounds_toArray,List.set_cons_zero,List.set_cons_succ])
     refine wpAnyH_ready (rs:= [3,24]) (by kernel_rfl) (by simp) ?_
     refine AllReadyH.cons rfl (fun K9 hK9=> ?_) (AllReadyH.cons rfl (fun K9 hK9=> ?_) AllReadyH.nil)
     ·
      go_simp
      refine hK9.out _ _ X7 (fun hHeld=> ?_)
      clear hK9 K9
      (try simp only[Act.put,List.setIfInBounds_toArray,List.set_cons_zero,List.set_cons_succ])
      refine wpAnyH_ready (rs:= [24]) (by kernel_rfl) (by simp) ?_
      refine AllReadyH.cons rfl (fun K9 hK9=> ?_) AllReadyH.nil
      go_simp
      go_at_call 248
      refine hK.mono ?_;rintro e w8 ⟨rfl,t8,r8,s8⟩;have b8:=b7.keep s8 (by omega)
      have q8:=q7.keep s8 (by omega) (by omega) (by omega)
      have m8:=m7.keep s8 (by omega)
      have p8:=hp7.keep s8 (by omega)
      have X8:=hI _ _ b8;have Y8:=hY _ _ b8;have f8:w8.frozen? ⟨g,23,none⟩=false:=b8.b.frozen 23;have b9:=(b8.aH 23 (.int .i64 ((c.fed:Int)+((aB c.p c.ring).1:Int)))).1;have X9:(w8.setCell ⟨g,23,none⟩ (.int .i64 ((c.fed:Int)+((aB c.p c.ring).1:Int)))).cell? ⟨g,18,none⟩=some (pV gr)/\ (w8.setCell ⟨g,23,none⟩ (.int .i64 ((c.fed:Int)+((aB c.p c.ring).1:Int)))).cell? ⟨g,19,none⟩=some (pV gp):=⟨b9.b.cell 18,b9.b.cell 19⟩;have z9:=(b8.aH 23 (.int .i64 ((c.fed:Int)+((aB c.p c.ring).1:Int)))).2;have h9:pW (w8.setCell ⟨g,23,none⟩ (.int .i64 ((c.fed:Int)+((aB c.p c.ring).1:Int)))) t8 m g cf tv gs { c with p:=(aB c.p c.ring).2,ring:=c.ring.drop (aB c.p c.ring).1,fed:=c.fed+(aB c.p c.ring).1 } gq gr gp bw:=⟨b9.to rfl,q8.keep z9 (by omega) (by omega) (by omega),r8.keep z9 (by omega) (by omega),p8.keep z9 (by omega),m8.keep z9 (by omega)⟩
      have sF:=(((((s1.trans zd fun _ h=>h).trans z6 fun _ h=>h).mono (S':=Mk m 20) fun _ h=>h.elim).trans s7 fun y (h:y=m+12)=>(show Mk m 20 y by omega)).trans s8 fun y (h:Mk (m+8) 2 y)=>(show Mk m 20 y by omega)).trans z9 fun y (h:y=m)=>(show Mk m 20 y by omega)
      clear hK hF6 h6 X6 Y6 X7 b7 r7 q7 m7 s7 s8 z6 hp7 b9 q8 m8 p8 r8 z9;go_wp2_with fail
      refine hK9.out _ _ X8 (fun hHeld=> ?_)
      clear hK9 K9
      (try simp only[Act.put,List.setIfInBounds_toArray,List.set_cons_zero,List.set_cons_succ])
      refine wpAnyH_take (i:=25) (v:= ?_) rfl (by kernel_rfl) (by kernel_rfl) (by kernel_rfl) (fun _ _ _ h=>h) (Or.inl ⟨by rfl,?_⟩) (by assumption) ?_
      rotate_left
      ·intro w9 hSw
       (try dsimp only at hSw)
       go_simp<;>with_reducible rfl
      (try simp only[Act.put,List.setIfInBounds_toArray])
      refine wpAnyH_take (i:=26) (v:= ?_) rfl (by kernel_rfl) (by kernel_rfl) (by kernel_rfl) (fun _ _ _ h=>h) (Or.inl ⟨by rfl,?_⟩) (by assumption) ?_
      rotate_left
      ·intro w9 hSw
       (try dsimp only at hSw)
       go_simp<;>with_reducible rfl
      (try simp only[Act.put,List.setIfInBounds_toArray])
      refine wpAnyH_take (i:=27) (v:= ?_) rfl (by kernel_rfl) (by kernel_rfl) (by kernel_rfl) (fun _ _ _ h=>h) (Or.inl ⟨by rfl,?_⟩) (by assumption) ?_
      rotate_left
      ·intro w9 hSw
       (try dsimp only at hSw)
       go_simp<;>with_reducible rfl
      (try simp only[Act.put,List.setIfInBounds_toArray])
      refine wpAnyH_ready (rs:= [28]) (by kernel_rfl) (by simp) ?_
      refine AllReadyH.cons rfl (fun K9 hK9=> ?_) AllReadyH.nil
      go_simp
      refine hK9.out _ _ X9 (fun hHeld=> ?_)
      clear hK9 K9
      (try simp only[Act.put,List.setIfInBounds_toArray,List.set_cons_zero,List.set_cons_succ])
      refine wpAnyH_done (by kernel_rfl) ?_ _
      refine NoPanic.normal ?_;go_wp2_with fail
      go_ret
      exact⟨rfl,t8,⟨gq,gr,gp,bw,h9⟩,sF⟩
     ·
      go_simp
      go_at_call 248
      refine hK.mono ?_;rintro e w8 ⟨rfl,t8,r8,s8⟩;have b8:=b7.keep s8 (by omega)
      have q8:=q7.keep s8 (by omega) (by omega) (by omega)
      have m8:=m7.keep s8 (by omega)
      have p8:=hp7.keep s8 (by omega)
      have X8:=hI _ _ b8;have Y8:=hY _ _ b8;have f8:w8.frozen? ⟨g,23,none⟩=false:=b8.b.frozen 23;have b9:=(b8.aH 23 (.int .i64 ((c.fed:Int)+((aB c.p c.ring).1:Int)))).1;have X9:(w8.setCell ⟨g,23,none⟩ (.int .i64 ((c.fed:Int)+((aB c.p c.ring).1:Int)))).cell? ⟨g,18,none⟩=some (pV gr)/\ (w8.setCell ⟨g,23,none⟩ (.int .i64 ((c.fed:Int)+((aB c.p c.ring).1:Int)))).cell? ⟨g,19,none⟩=some (pV gp):=⟨b9.b.cell 18,b9.b.cell 19⟩;have z9:=(b8.aH 23 (.int .i64 ((c.fed:Int)+((aB c.p c.ring).1:Int)))).2;have h9:pW (w8.setCell ⟨g,23,none⟩ (.int .i64 ((c.fed:Int)+((aB c.p c.ring).1:Int)))) t8 m g cf tv gs { c with p:=(aB c.p c.ring).2,ring:=c.ring.drop (aB c.p c.ring).1,fed:=c.fed+(aB c.p c.ring).1 } gq gr gp bw:=⟨b9.to rfl,q8.keep z9 (by omega) (by omega) (by omega),r8.keep z9 (by omega) (by omega),p8.keep z9 (by omega),m8.keep z9 (by omega)⟩
      have sF:=(((((s1.trans zd fun _ h=>h).trans z6 fun _ h=>h).mono (S':=Mk m 20) fun _ h=>h.elim).trans s7 fun y (h:y=m+12)=>(show Mk m 20 y by omega)).trans s8 fun y (h:Mk (m+8) 2 y)=>(show Mk m 20 y by omega)).trans z9 fun y (h:y=m)=>(show Mk m 20 y by omega)
      clear hK hF6 h6 X6 Y6 X7 b7 r7 q7 m7 s7 s8 z6 hp7 b9 q8 m8 p8 r8 z9;go_wp2_with fail
      refine hK9.out _ _ X8 (fun hHeld=> ?_)
      clear hK9 K9
      (try simp only[Act.put,List.setIfInBounds_toArray,List.set_cons_zero,List.set_cons_succ])
      refine wpAnyH_ready (rs:= [3]) (by kernel_rfl) (by simp) ?_
      refine AllReadyH.cons rfl (fun K9 hK9=> ?_) AllReadyH.nil
      go_simp
      refine hK9.out _ _ X8 (fun hHeld=> ?_)
      clear hK9 K9
      (try simp only[Act.put,List.setIfInBounds_toArray,List.set_cons_zero,List.set_cons_succ])
      refine wpAnyH_take (i:=25) (v:= ?_) rfl (by kernel_rfl) (by kernel_rfl) (by kernel_rfl) (fun _ _ _ h=>h) (Or.inl ⟨by rfl,?_⟩) (by assumption) ?_
      rotate_left
      ·intro w9 hSw
       (try dsimp only at hSw)
       go_simp<;>with_reducible rfl
      (try simp only[Act.put,List.setIfInBounds_toArray])
      refine wpAnyH_take (i:=26) (v:= ?_) rfl (by kernel_rfl) (by kernel_rfl) (by kernel_rfl) (fun _ _ _ h=>h) (Or.inl ⟨by rfl,?_⟩) (by assumption) ?_
      rotate_left
      ·intro w9 hSw
       (try dsimp only at hSw)
       go_simp<;>with_reducible rfl
      (try simp only[Act.put,List.setIfInBounds_toArray])
      refine wpAnyH_take (i:=27) (v:= ?_) rfl (by kernel_rfl) (by kernel_rfl) (by kernel_rfl) (fun _ _ _ h=>h) (Or.inl ⟨by rfl,?_⟩) (by assumption) ?_
      rotate_left
      ·intro w9 hSw
       (try dsimp only at hSw)
       go_simp<;>with_reducible rfl
      (try simp only[Act.put,List.setIfInBounds_toArray])
      refine wpAnyH_ready (rs:= [28]) (by kernel_rfl) (by simp) ?_
      refine AllReadyH.cons rfl (fun K9 hK9=> ?_) AllReadyH.nil
      go_simp
      refine hK9.out _ _ X9 (fun hHeld=> ?_)
      clear hK9 K9
      (try simp only[Act.put,List.setIfInBounds_toArray,List.set_cons_zero,List.set_cons_succ])
      refine wpAnyH_done (by kernel_rfl) ?_ _
      refine NoPanic.normal ?_;go_wp2_with fail
      go_ret
      exact⟨rfl,t8,⟨gq,gr,gp,bw,h9⟩,sF⟩
end
end Go.Proofs.YtdmondfpepbniaaGreatDoor
