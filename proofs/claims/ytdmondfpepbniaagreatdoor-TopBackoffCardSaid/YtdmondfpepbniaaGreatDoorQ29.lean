/- Part 29 of the proof: VyA Vh VhB. -/
import Derived.Test.YtdmondfpepbniaaGreatDoorQ24
import Derived.Test.YtdmondfpepbniaaGreatDoorQ25
import Derived.Test.YtdmondfpepbniaaGreatDoorQ27
namespace Go.Proofs.YtdmondfpepbniaaGreatDoor
open Go.RowKit
set_option maxRecDepth 100000
set_option maxHeartbeats 4000000
set_option linter.all false
theorem aaO (w:World) (kind:Bs) (A:Option Addr) (c:Nat) (b:Bs) (hr:Rd w w.heap.size 1 A b.length (b.map bv)) (hc:b.length<= c):
 Calls Tryz.prog 292 #[sv kind,.slice A b.length c] w fun e w'=> ∃x:RsP,x.r=okR kind b/\ e= .returned (rsW x)/\ RsR w' x/\ Below w.heap.size w w'/\ x.ab=A/\ x.ap=none/\ ∀a,x.af=some a-> w.heap.size<= a.block:=by
 go_enter Tryz.func292,Tryz.ntmps292
 go_wp2_with fail
 obtain⟨V,hV⟩: ∃V,V=w.alloc (.cells #[.int .i64 200,.slice (some ⟨w.heap.size+1,0,none⟩) 1 1,.slice A b.length c,.slice none 0 0] 54):=⟨_,rfl⟩;have hVs:w.heap.size+1=V.heap.size:=by rw[hV];simp
 have LV:Below w.heap.size w V:=by rw[hV];exact aj (Below.refl _ _) _
 have BV:Blk V w.heap.size 54 #[.int .i64 200,.slice (some ⟨w.heap.size+1,0,none⟩) 1 1,.slice A b.length c,.slice none 0 0]:=by rw[hV];exact Blk.new' _ _ rfl _ _
 rw[<- hV];clear hV;obtain⟨U,hU⟩: ∃U,U=V.alloc (.cells #[.string ⟨#[67,111,110,116,101,110,116,45,84,121,112,101]⟩,sv kind] 86):=⟨_,rfl⟩;have LU:Below w.heap.size w U:=by rw[hU];exact aj LV _
 have BU:Blk U w.heap.size 54 #[.int .i64 200,.slice (some ⟨w.heap.size+1,0,none⟩) 1 1,.slice A b.length c,.slice none 0 0]:=by rw[hU];exact BV.ah (aj (Below.refl V.heap.size V) _)
 have hF:Rd U U.heap.size 2 (some ⟨w.heap.size+1,0,none⟩) 1 [sv ctN,sv kind]:=by
  rw[hVs,hU];exact(Rd.new V _ rfl [sv ctN,sv kind] 86 1 2 rfl).more (by simp)
 rw[<- hU];clear hU BV LV hVs;obtain⟨r0,r1,r2,r3,-,-,-,-⟩:=BU.c4;refine bodyPost_ret (v:=rsW ⟨okR kind b,some ⟨w.heap.size+1,0,none⟩,1,A,c,none,0⟩) (by simp[results,Tryz.results292,go_sem,r0,r1,r2,r3];exact⟨rfl,rfl,rfl,rfl⟩) rfl ⟨⟨okR kind b,some ⟨w.heap.size+1,0,none⟩,1,A,c,none,0⟩,rfl,rfl,⟨hF,(hr.ah (Nat.le_refl _) LU).more LU.size,Rd.nil _ _ _ _,Nat.le_refl _,hc,Nat.le_refl _⟩,LU,rfl,rfl,fun a ha=>by injection ha with ha;subst ha;exact Nat.le_succ _⟩
def sBA (l:Bs):ByteArray:=⟨l.toArray⟩
structure SitB (w:World) (t:Nat-> Nat) (m g gr:Nat) (v:Value) (rs:List (ByteArray×(Nat×ByteArray))):Prop where
 b:BT w t m g 203 #[pV gr,v]
 r:RtK w t (m+1) gr rs
def yw (w:World) (t:Nat-> Nat) (m g:Nat) (tab:List En):Prop:= ∃gr v rs,SitB w t m g gr v rs/\ RT w t (m+7) 99 3 v tab.length (tab.flatMap fun x=> [sv x.path,sv x.kind,sv x.data])/\
 aT rs (sBA aX)=some (3,eu)/\ ∀i x,tab[i]? = some x-> aT rs (sBA x.path)=some (10+i,eu)
theorem yw.keep {S:Nat-> Prop} {w w':World} {t t':Nat-> Nat} {m g:Nat} {tab:List En} (h:yw w t m g tab) (st:Stp S w t w' t') (h0: ∀y,Mk m 10 y-> ¬S y):yw w' t' m g tab:=by
 obtain⟨gr,v,rs,a,b,c⟩:=h;exact⟨gr,v,rs,⟨a.b.keep st (h0 _ (by omega)),a.r.keep st fun y hy=>h0 _ (by omega)⟩,b.keep st (h0 _ (by omega)),c⟩
theorem QY (w:World) (t:Nat-> Nat) (m g:Nat) (tab:List En) (r:RQ) (AF:Option Addr) (cF:Nat) (AB:Option Addr) (cB:Nat) (h:yw w t m g tab) (hm:r.m=mP) (hf:r.t.form=1) (hp:r.t.path=aX):
 Calls Tryz.prog 252 #[pV g,rqV r AF cF AB cB] w fun e w'=> ∃x:RsP,x.r=nM tab r.t.path/\ e= .returned (rsW x)/\ RsR w' x/\ Below w.heap.size w w':=by
 have hS:nM tab r.t.path=okR [116,101,120,116,47,112,108,97,105,110] [111,107,10]:=by rw[nM,if_pos hp]
 rw[hS];clear hS;obtain⟨gr,v,rs,hB,-,hst,-⟩:=h;obtain⟨M,⟨fo,ho,pa,qu⟩,v',F,B,c,e⟩:=r;simp only at hm hf hp;subst hm hf hp;unfold rqV MH;simp only;go_enter Tryz.func252,Tryz.ntmps252
 go_upto_region 3 with(fail)
 obtain⟨Q,hQ⟩: ∃Q,Q=w.alloc (.cells #[sv mP,.int .i64 1,sv ho,sv aX,sv qu,.int .i64 v',.slice AF F.length cF,.slice AB B.length cB,.bool c,.bool e] 316):=⟨_,rfl⟩;have LQ:Below w.heap.size w Q:=by rw[hQ];exact aj (Below.refl _ _) _
 have BQ:Blk Q w.heap.size 316 #[sv mP,.int .i64 1,sv ho,sv aX,sv qu,.int .i64 v',.slice AF F.length cF,.slice AB B.length cB,.bool c,.bool e]:=by rw[hQ];exact Blk.new' _ _ rfl _ _
 have hQs:w.heap.size+1=Q.heap.size:=by rw[hQ];simp
 rw[<- hQ];clear hQ;obtain⟨U,hU⟩: ∃U,U=Q.alloc (.cells #[.int .i64 0,.slice none 0 0,.slice none 0 0,.slice none 0 0] 54):=⟨_,rfl⟩;have LU:Below w.heap.size w U:=by rw[hU];exact aj LQ _
 have BU:Blk U w.heap.size 316 #[sv mP,.int .i64 1,sv ho,sv aX,sv qu,.int .i64 v',.slice AF F.length cF,.slice AB B.length cB,.bool c,.bool e]:=by rw[hU];exact BQ.ah (aj (Below.refl Q.heap.size Q) _)
 have BR:Blk U (w.heap.size+1) 54 #[.int .i64 0,.slice none 0 0,.slice none 0 0,.slice none 0 0]:=by rw[hU,hQs];exact Blk.new' _ _ rfl _ _
 rw[<- hU];clear hU BQ LQ hQs;go_upto_region 4 with(fail)
 obtain⟨V,hV⟩: ∃V,V=U.alloc (.cells #[.string ⟨#[71,69,84]⟩,.string ⟨#[72,69,65,68]⟩,.string ⟨#[79,80,84,73,79,78,83]⟩,.string ⟨#[80,79,83,84]⟩] 9):=⟨_,rfl⟩;have LUV:Below U.heap.size U V:=by rw[hV];exact aj (Below.refl _ _) _
 have LV:=stepW LU LUV;have BV:Blk V U.heap.size 9 #[.string ⟨#[71,69,84]⟩,.string ⟨#[72,69,65,68]⟩,.string ⟨#[79,80,84,73,79,78,83]⟩,.string ⟨#[80,79,83,84]⟩]:=by rw[hV];exact Blk.new' _ _ rfl _ _
 have BQ:=BU.ah LUV;have BS:=BR.ah LUV;rw[<- hV];clear hV BU BR;have k0:V.cell? ⟨w.heap.size,0,none⟩=some (.string eu):=BQ.cell 0;have k1:V.cell? ⟨w.heap.size,1,none⟩=some (.int .i64 1):=BQ.cell 1;have k3:V.cell? ⟨w.heap.size,3,none⟩=some (.string (sBA aX)):=BQ.cell 3
 have hC:=(Tryz.slices_Contains_string U.heap.size 0 4 4 [⟨#[71,69,84]⟩,⟨#[72,69,65,68]⟩,⟨#[79,80,84,73,79,78,83]⟩,⟨#[80,79,83,84]⟩] eu V (by simp) (by omega) (fun j hj=>by
  rw[Nat.zero_add];have hj:j<4:=by simpa using hj
  rcases j with _|_|_|_|j
  ·exact BV.cell 0
  ·exact BV.cell 1
  ·exact BV.cell 2
  ·exact BV.cell 3
  ·omega)).mono fun e w' h=>(⟨h.1,h.2.symm⟩:_/\ V=w')
 rw[show Lib.containsS ([(⟨#[71,69,84]⟩:ByteArray),⟨#[72,69,65,68]⟩,⟨#[79,80,84,73,79,78,83]⟩,⟨#[80,79,83,84]⟩].take 4) eu=true from(Lib.containsS_iff _ _).2 (by simp[eu])]at hC
 go_upto_region 6 with(fail)
 go_wp2_with fail
 refine hC.mono ?_;rintro e w2 ⟨rfl,rfl⟩;have st:=Stp.below LV (fun _=>False) t
 have hb:=hB.b.keep st id;have hM:=QG V.drew t (m+1) gr rs (sBA aX) 3 ((hB.r.keep st fun _ _ h=>h).keep (Stp.refl (fun _=>False) V t).drew fun _ _ h=>h) (by decide) hst
 obtain⟨j0,-,-,-⟩:=hb.b.c2;have hX: ∀w4:World,Below V.heap.size V w4-> Below V.heap.size V w4/\ w4.cell? ⟨w.heap.size,0,none⟩=some (.string eu)/\ w4.cell? ⟨w.heap.size,3,none⟩=some (.string (sBA aX))/\ w4.cell? ⟨g,0,none⟩=some (pV gr):=fun w4 L4=>
  ⟨L4,(BQ.ah L4).cell 0,(BQ.ah L4).cell 3,(hb.b.ah L4).cell 0⟩
 have S0:=hX V (Below.refl _ _);have Sd:=hX V.drew (Below.refl _ _).drew;have LVr:Below V.heap.size V V:=Below.refl _ _;clear hC BV LUV hB st;go_upto_region 8 with(fail)
 go_region_held3 (fun w'=>Below V.heap.size V w'/\ w'.cell? ⟨w.heap.size,0,none⟩=some (.string eu)/\ w'.cell? ⟨w.heap.size,3,none⟩=some (.string (sBA aX))/\ w'.cell? ⟨g,0,none⟩=some (pV gr))
  (first|exact S0|exact Sd|exact X4|go_keep)
  (first
    | (go_at_call 290
       refine hM.mono ?_;rintro e w3 ⟨rfl,L3⟩
       have X4:=hX w3 (stepW (Below.refl V.heap.size V).drew L3)))
 rename_i hS9;have BS3:=BS.ah hS9.1;have LW:=stepW LV hS9.1;clear BQ BS hM k0 k1 k3 j0 hb LV LU hS9 X4 hX S0 Sd LVr;go_upto_region 30 with(fail)
 have hR3:Rd (w3.alloc (.cells #[.int .u8 111,.int .u8 107,.int .u8 10] 5 (3,4))) (w3.alloc (.cells #[.int .u8 111,.int .u8 107,.int .u8 10] 5 (3,4))).heap.size 1 (some ⟨w3.heap.size,0,none⟩) 3 (([111,107,10]:Bs).map bv):=(Rd.XZ w3 _ rfl (([111,107,10]:Bs).map bv) 5 (3,4) 3 1 (by decide)).more (by simp)
 have hOk:=aaO (w3.alloc (.cells #[.int .u8 111,.int .u8 107,.int .u8 10] 5 (3,4))) [116,101,120,116,47,112,108,97,105,110] (some ⟨w3.heap.size,0,none⟩) 3 [111,107,10] hR3 (by decide)
 have hcv:(convert 33 33 (.slice (some ⟨w3.heap.size,0,none⟩) 3 3)).run Tryz.prog (w3.alloc (.cells #[.int .u8 111,.int .u8 107,.int .u8 10] 5))= .ok (.slice (some ⟨w3.heap.size,0,none⟩) 3 3) (w3.alloc (.cells #[.int .u8 111,.int .u8 107,.int .u8 10] 5 (3,4))):=Lib.run_convert_bytes_const w3 _ _ #[.int .u8 111,.int .u8 107,.int .u8 10] 3 3 Tryz.underlying33 Tryz.underlying5;have LA:=aj (Below.refl w3.heap.size w3) (.cells #[.int .u8 111,.int .u8 107,.int .u8 10] 5 (3,4));go_wp2_with fail
 refine hOk.mono ?_;rintro e w4 ⟨x,hx,rfl,hRs,L4,hab,hap,haf⟩;have L5:=stepW LA L4;have B5:=BS3.ah L5;have L6:=stepW LW L5;have hw3:w.heap.size+1<w3.heap.size:=BS3.lt;clear hR3 hOk LA L4 BS3 LW L5 hcv;obtain⟨z0,z1,z2,z3,f0,f1,f2,f3⟩:=B5.c4;have HX:=Lib.hid hx;clear hx;go_wp2_with fail
 have F9:Fr (fun k=>k=w.heap.size+1) w4 ((((w4.setCell ⟨w.heap.size+1,0,none⟩ (.int .i64 x.r.st)).setCell ⟨w.heap.size+1,1,none⟩ (.slice x.af x.r.f.length x.cf)).setCell ⟨w.heap.size+1,2,none⟩ (.slice (some ⟨w3.heap.size,0,none⟩) x.r.b.length x.cb)).setCell ⟨w.heap.size+1,3,none⟩ (.slice none x.r.p.length x.cp)):=by
  have h0: ∀(i:Nat),(fun k=>k=w.heap.size+1) (⟨w.heap.size+1,i,none⟩:Addr).block:=fun _=>rfl
  exact((((Fr.refl (fun k=>k=w.heap.size+1) w4).setCell (.inl (h0 0)) _).setCell (.inl (h0 1)) _).setCell (.inl (h0 2)) _).setCell (.inl (h0 3)) _
 have L9:Below w.heap.size w ((((w4.setCell ⟨w.heap.size+1,0,none⟩ (.int .i64 x.r.st)).setCell ⟨w.heap.size+1,1,none⟩ (.slice x.af x.r.f.length x.cf)).setCell ⟨w.heap.size+1,2,none⟩ (.slice (some ⟨w3.heap.size,0,none⟩) x.r.b.length x.cb)).setCell ⟨w.heap.size+1,3,none⟩ (.slice none x.r.p.length x.cp)):=by
  repeat refine setW ?_ (by simp) _
  exact L6
 have C9:Blk ((((w4.setCell ⟨w.heap.size+1,0,none⟩ (.int .i64 x.r.st)).setCell ⟨w.heap.size+1,1,none⟩ (.slice x.af x.r.f.length x.cf)).setCell ⟨w.heap.size+1,2,none⟩ (.slice (some ⟨w3.heap.size,0,none⟩) x.r.b.length x.cb)).setCell ⟨w.heap.size+1,3,none⟩ (.slice none x.r.p.length x.cp)) (w.heap.size+1) 54 #[.int .i64 x.r.st,.slice x.af x.r.f.length x.cf,.slice x.ab x.r.b.length x.cb,.slice x.ap x.r.p.length x.cp]:=by
  rw[hab,hap];have:=(((B5.ay 0 (.int .i64 x.r.st)).ay 1 (.slice x.af x.r.f.length x.cf)).ay 2 (.slice (some ⟨w3.heap.size,0,none⟩) x.r.b.length x.cb)).ay 3 (.slice none x.r.p.length x.cp);simpa using this
 have hw3:w.heap.size+1<w3.heap.size:=hw3;have R9:RsR ((((w4.setCell ⟨w.heap.size+1,0,none⟩ (.int .i64 x.r.st)).setCell ⟨w.heap.size+1,1,none⟩ (.slice x.af x.r.f.length x.cf)).setCell ⟨w.heap.size+1,2,none⟩ (.slice (some ⟨w3.heap.size,0,none⟩) x.r.b.length x.cb)).setCell ⟨w.heap.size+1,3,none⟩ (.slice none x.r.p.length x.cp)) x:=⟨(hRs.rf.frm (Nat.le_refl _) F9 fun _ a ha e=>by have:=haf a ha;simp at this;have e:a.block=w.heap.size+1:=e;omega).more F9.size,(hRs.rb.frm (Nat.le_refl _) F9 fun _ a ha e=>by rw[hab]at ha;injection ha with ha;subst ha;have e:w3.heap.size=w.heap.size+1:=e;omega).more F9.size,(hRs.rp.frm (Nat.le_refl _) F9 fun _ a ha e=>by rw[hap]at ha;cases ha).more F9.size,hRs.cf,hRs.cb,hRs.cp⟩
 obtain⟨r0,r1,r2,r3,-,-,-,-⟩:=C9.c4;refine bodyPost_ret (v:=rsW x) (by simp[results,Tryz.results252,go_sem,r0,r1,r2,r3]) rfl ⟨x,HX.out,rfl,R9,L9⟩
def uV (cf:Cf) (tv:Value) (gq gs gr gp bw:Nat) (c:CnS):Array Value:=
 ([pV gq]++cfC cf tv++ [pV gs,pV gr,pV gp,nV c.phase,nV c.since,nV c.wL,nV c.fed,.bool c.dO,.bool c.ending,.bool c.ended,.bool c.closed,.bool c.word,.map (some bw),nV c.taken,nV c.laid,nV c.whole,nV c.told]).toArray
structure pW (w:World) (t:Nat-> Nat) (m g:Nat) (cf:Cf) (tv:Value) (gs:Nat) (c:CnS) (gq gr gp bw:Nat):Prop where
 b:BT w t m g 131 (uV cf tv gq gs gr gp bw c)
 q:yc w t (m+1) gq c.q
 r:jo w t (m+8) gr c.ring
 p:yY w t (m+12) gp c.p
 w:MT w t (m+13) bw nV nOk Value.bool c.words
def dK (w:World) (t:Nat-> Nat) (m g:Nat) (cf:Cf) (tv:Value) (gs:Nat) (c:CnS):Prop:= ∃gq gr gp bw,pW w t m g cf tv gs c gq gr gp bw
section
variable {S:Nat-> Prop} {w w':World} {t t':Nat-> Nat} {m g:Nat} {cf:Cf} {tv:Value} {gs:Nat} {c:CnS} {gq gr gp bw:Nat}
theorem pW.keep (h:pW w t m g cf tv gs c gq gr gp bw) (st:Stp S w t w' t') (h0: ∀y,Mk m 20 y-> ¬S y):pW w' t' m g cf tv gs c gq gr gp bw:=
 ⟨h.b.keep st (h0 _ (by omega)),h.q.keep st (h0 _ (by omega)) (h0 _ (by omega)) (h0 _ (by omega)),h.r.keep st (h0 _ (by omega)) (h0 _ (by omega)),h.p.keep st (h0 _ (by omega)),h.w.keep st (h0 _ (by omega))⟩
theorem dK.keep (h:dK w t m g cf tv gs c) (st:Stp S w t w' t') (h0: ∀y,Mk m 20 y-> ¬S y):dK w' t' m g cf tv gs c:=by
 obtain⟨gq,gr,gp,bw,a⟩:=h;exact⟨gq,gr,gp,bw,a.keep st h0⟩
theorem pW.set (h:pW w t m g cf tv gs c gq gr gp bw) (i:Nat) (u:Value) (c':CnS) (hc:(uV cf tv gq gs gr gp bw c).setIfInBounds i u=uV cf tv gq gs gr gp bw c') (h1:c'.q=c.q) (h2:c'.ring=c.ring) (h3:c'.p=c.p) (h4:c'.words=c.words):
 pW (w.setCell ⟨g,i,none⟩ u) t m g cf tv gs c' gq gr gp bw/\ Stp (fun y=>y=m) w t (w.setCell ⟨g,i,none⟩ u) t:=by
 obtain⟨b1,z1⟩:=h.b.aH i u;exact⟨⟨b1.to hc,by rw[h1];exact h.q.keep z1 (by omega) (by omega) (by omega),by rw[h2];exact h.r.keep z1 (by omega) (by omega),by rw[h3];exact h.p.keep z1 (by omega),by rw[h4];exact h.w.keep z1 (by omega)⟩,z1⟩
end
theorem QZ (w:World) (t:Nat-> Nat) (m g:Nat) (cf:Cf) (tv:Value) (gs:Nat) (c:CnS) (h:dK w t m g cf tv gs c):
 Calls Tryz.prog 69 #[pV g] w fun e w'=>e= .returned (.tuple #[nV c.phase,nV c.since])/\ ∃q,w'=w.drewN q:=by
 obtain⟨gq,gr,gp,bw,h⟩:=h;have j0:w.cell? ⟨g,20,none⟩=some (nV c.phase):=h.b.b.cell 20;have j1:w.cell? ⟨g,21,none⟩=some (nV c.since):=h.b.b.cell 21;clear h;go_enter Tryz.func69,Tryz.ntmps69
 go_upto_region 3 with(fail)
 go_quiet (fail)
 go_wp2_with fail
 go_ret2
 exact⟨rfl,_,rfl⟩
theorem W9 (w:World) (t:Nat-> Nat) (m g:Nat) (cf:Cf) (tv:Value) (gs:Nat) (c:CnS) (h:dK w t m g cf tv gs c):
 Calls Tryz.prog 79 #[pV g] w fun e w'=>e= .returned (.bool (decide (c.phase=4)))/\ ∃q,w'=w.drewN q:=by
 obtain⟨gq,gr,gp,bw,h⟩:=h;have j0:w.cell? ⟨g,20,none⟩=some (nV c.phase):=h.b.b.cell 20;have e:((c.phase:Int)==4)=decide (c.phase=4):=by
  cases hd:decide (c.phase=4)with
  |true=>rw[beq_iff_eq];have:=of_decide_eq_true hd;omega
  |false=>rw[beq_eq_false_iff_ne];have:=of_decide_eq_false hd;omega
 clear h;go_enter Tryz.func79,Tryz.ntmps79
 go_wp2_with fail
 go_ret
 exact⟨by simp,0,rfl⟩
theorem Q5 (w:World) (t:Nat-> Nat) (m g:Nat) (cf:Cf) (tv:Value) (gs:Nat) (c:CnS) (h:dK w t m g cf tv gs c):
 Calls Tryz.prog 25 #[pV g] w fun e w'=>e= .returned (.tuple #[nV c.taken,nV c.laid,nV c.whole])/\ ∃q,w'=w.drewN q:=by
 obtain⟨gq,gr,gp,bw,h⟩:=h;have j0:w.cell? ⟨g,30,none⟩=some (nV c.taken):=h.b.b.cell 30;have j1:w.cell? ⟨g,31,none⟩=some (nV c.laid):=h.b.b.cell 31;have j2:w.cell? ⟨g,32,none⟩=some (nV c.whole):=h.b.b.cell 32;clear h;go_enter Tryz.func25,Tryz.ntmps25
 go_upto_region 3 with(fail)
 go_quiet (fail)
 go_wp2_with fail
 refine bodyPost_ret (v:=.tuple #[nV c.taken,nV c.laid,nV c.whole]) (by simp[results,Tryz.results25,go_sem]) rfl ⟨rfl,_,rfl⟩
theorem Q7 (w:World) (t:Nat-> Nat) (m g:Nat) (cf:Cf) (tv:Value) (gs:Nat) (c:CnS) (h:dK w t m g cf tv gs c):
 Calls Tryz.prog 154 #[pV g] w fun e w'=>e= .returned (nV (bG c))/\ w=w':=by
 obtain⟨gq,gr,gp,bw,h⟩:=h;have j0:w.cell? ⟨g,0,none⟩=some (pV gq):=h.b.b.cell 0;have j19:w.cell? ⟨g,19,none⟩=some (pV gp):=h.b.b.cell 19;have j25:w.cell? ⟨g,25,none⟩=some (.bool c.ending):=h.b.b.cell 25;have j27:w.cell? ⟨g,27,none⟩=some (.bool c.closed):=h.b.b.cell 27;have hL:=rQ w t (m+1) gq c.q h.q;have hP:=nY w t (m+12) gp c.p h.p;have hS:=Lib.hid (show bG c=if c.closed then 5 else if c.ending&&decide (c.q.b.length=0)then 4 else if 0<c.q.b.length then 3 else min c.p.phase 2 from rfl)
 clear h;go_enter Tryz.func154,Tryz.ntmps154
 cases hc:c.closed
 ·rw[hc]at j27
  rcases Nat.eq_zero_or_pos c.q.b.length with h0|h0
  ·cases he:c.ending
   ·rw[he]at j25
    rw[h0]at hL;go_wp2_with fail
    refine hL.mono ?_;rintro e w1 ⟨rfl,rfl⟩;go_wp2_with fail
    refine hP.mono ?_;rintro e w1 ⟨rfl,rfl⟩;go_wp2_with fail
    go_ret
    exact⟨by rw[hS.out,hc,he,h0];simp;omega,rfl⟩
   ·rw[he]at j25
    rw[h0]at hL;go_wp2_with fail
    refine hL.mono ?_;rintro e w1 ⟨rfl,rfl⟩;go_wp2_with fail
    go_ret
    exact⟨by rw[hS.out,hc,he,h0];rfl,rfl⟩
  ·have HNI:=Lib.hid (show c.q.b≠[]from fun h=>by rw[h]at h0;exact absurd h0 (by simp))
   have d0:((c.q.b.length:Int)==0)=false:=beq_false_of_ne (by omega)
   have d1:(0:Int)< (c.q.b.length:Int):=by omega
   cases he:c.ending
   ·rw[he]at j25
    go_wp2_with fail
    refine hL.mono ?_;rintro e w1 ⟨rfl,rfl⟩;go_wp2_with fail
    go_ret
    exact⟨by rw[hS.out,hc,he,if_neg (by simp),if_neg (by simp[HNI.out]),if_pos h0];rfl,rfl⟩
   ·rw[he]at j25
    go_wp2_with fail
    refine hL.mono ?_;rintro e w1 ⟨rfl,rfl⟩;go_wp2_with fail
    refine hL.mono ?_;rintro e w1 ⟨rfl,rfl⟩;go_wp2_with fail
    go_ret
    exact⟨by rw[hS.out,hc,he,if_neg (by simp),if_neg (by simp[HNI.out]),if_pos h0];rfl,rfl⟩
 ·rw[hc]at j27
  go_wp2_with fail
  go_ret
  exact⟨by rw[hS.out,hc];rfl,rfl⟩
theorem JV (w:World) (t:Nat-> Nat) (m g:Nat) (cf:Cf) (tv:Value) (gs:Nat) (c:CnS) (h:dK w t m g cf tv gs c):
 Calls Tryz.prog 91 #[pV g] w fun e w'=>e= .returned (nV (o9 c))/\ Below w.heap.size w w':=by
 obtain⟨gq,gr,gp,bw,h⟩:=h;have j18:w.cell? ⟨g,18,none⟩=some (pV gr):=h.b.b.cell 18;have j25:w.cell? ⟨g,25,none⟩=some (.bool c.ending):=h.b.b.cell 25;have j26:w.cell? ⟨g,26,none⟩=some (.bool c.ended):=h.b.b.cell 26;have j27:w.cell? ⟨g,27,none⟩=some (.bool c.closed):=h.b.b.cell 27;have hR:=Bl w t (m+8) gr c.ring h.r;have hS:=Lib.hid (show o9 c=if c.closed then 0 else if c.ending||c.ended then 256 else 256-c.ring.length from rfl)
 clear h;go_enter Tryz.func91,Tryz.ntmps91
 cases hc:c.closed
 ·rw[hc]at j27
  cases he:c.ending
  ·rw[he]at j25
   cases hd:c.ended
   ·rw[hd]at j26
    go_wp2_with fail
    refine hR.mono ?_;rintro e w1 ⟨rfl,L1⟩;go_wp2_with fail
    go_ret
    exact⟨by rw[hS.out,hc,he,hd];rfl,L1⟩
   ·rw[hd]at j26
    go_wp2_with fail
    go_ret
    exact⟨by rw[hS.out,hc,he,hd];rfl,Below.refl _ _⟩
  ·rw[he]at j25
   go_wp2_with fail
   go_ret
   exact⟨by rw[hS.out,hc,he];rfl,Below.refl _ _⟩
 ·rw[hc]at j27
  go_wp2_with fail
  go_ret
  exact⟨by rw[hS.out,hc];rfl,Below.refl _ _⟩
theorem tq (w:World) (t:Nat-> Nat) (m g:Nat) (cf:Cf) (tv:Value) (gs:Nat) (c:CnS) (h:dK w t m g cf tv gs c) (hpc:c.q.pcs.length<= 100000) (hq:c.ending=false-> c.p.phase<3-> c.q.pcs.length<cf.pipe):
 Calls Tryz.prog 247 #[pV g] w fun e w'=>e= .returned (.bool (lY cf c))/\ Below w.heap.size w w':=by
 obtain⟨gq,gr,gp,bw,h⟩:=h;have hS:=Lib.hid (show lY cf c=(!c.ending&& (decide (c.p.phase<3)&& (decide (c.q.pcs.length<cf.pipe)&&decide (0<c.ring.length))))from rfl)
 have j0:w.cell? ⟨g,0,none⟩=some (pV gq):=h.b.b.cell 0;have j3:w.cell? ⟨g,3,none⟩=some (nV cf.pipe):=h.b.b.cell 3;have j18:w.cell? ⟨g,18,none⟩=some (pV gr):=h.b.b.cell 18;have j19:w.cell? ⟨g,19,none⟩=some (pV gp):=h.b.b.cell 19;have j25:w.cell? ⟨g,25,none⟩=some (.bool c.ending):=h.b.b.cell 25;have hP:=fun W (L:Below w.heap.size w W)=>nY W t (m+12) gp c.p (h.p.keep (Stp.below L (fun _=>False) t) id)
 have hQ:=fun W (L:Below w.heap.size w W)=>JF W t (m+1) gq c.q (h.q.keep (Stp.below L (fun _=>False) t) id id id) hpc
 have hR:=fun W (L:Below w.heap.size w W)=>wG W t (m+8) gr c.ring (h.r.keep (Stp.below L (fun _=>False) t) id id)
 have hc5:=fun W (L:Below w.heap.size w W)=>h.b.ah L
 clear h;go_enter Tryz.func247,Tryz.ntmps247
 go_upto_region 1 with(fail)
 cases he:c.ending
 rotate_left
 ·rw[he]at j25
  go_quiet (fail)
  go_wp2_with fail
  go_ret
  exact⟨by rw[hS.out,he];rfl,Below.drewN (Below.refl _ _) _⟩
 ·rw[he]at j25
  rcases Nat.lt_or_ge c.p.phase 3 with hp|hp;rotate_left
  ·have hp1: ¬(c.p.phase:Int)<3:=by omega
   have hp2:decide ((c.p.phase:Int)<3)=false:=decide_eq_false hp1;have hPq:=fun n=>(hP (w.drewN n) (Below.drewN (Below.refl _ _) _)).mono fun e w' h=>(⟨h.1,0,h.2.symm⟩:e= .returned (.int .i64 (c.p.phase:Int))/\ ∃q,w'=(w.drewN n).drewN q)
   go_quiet ((go_at_call 198;exact zn (hPq _)))
   go_wp2_with fail
   go_ret
   exact⟨by rw[hS.out,he,decide_eq_false (by omega)];rfl,Below.drewN (Below.refl _ _) _⟩
  ·have hp1:(c.p.phase:Int)<3:=by omega
   have lg:g<w.heap.size:=(hc5 w (Below.refl _ _)).lt;have hcl: ∀W,Below w.heap.size w W-> Below w.heap.size w W/\ W.cell? ⟨g,0,none⟩=some (pV gq)/\ W.cell? ⟨g,3,none⟩=some (nV cf.pipe)/\ W.cell? ⟨g,18,none⟩=some (pV gr)/\ W.cell? ⟨g,19,none⟩=some (pV gp)/\ W.cell? ⟨g,25,none⟩=some (.bool false):=fun W L=>
    ⟨L,(L.cell (p:=⟨g,0,none⟩) lg).trans j0,(L.cell (p:=⟨g,3,none⟩) lg).trans j3,(L.cell (p:=⟨g,18,none⟩) lg).trans j18,(L.cell (p:=⟨g,19,none⟩) lg).trans j19,(L.cell (p:=⟨g,25,none⟩) lg).trans j25⟩
   have S0:=hcl w (Below.refl _ _);have Sd:=hcl w.drew (Below.refl _ _).drew;clear hc5;have hq:=hq he hp;have HP:=Lib.hid (show decide (c.p.phase<3)=true from decide_eq_true hp)
   clear hp;have hq1:(c.q.pcs.length:Int)< (cf.pipe:Int):=by omega
   have HQ:=Lib.hid (show decide (c.q.pcs.length<cf.pipe)=true from decide_eq_true hq)
   clear hq;go_region_held3 (fun W=>Below w.heap.size w W/\ W.cell? ⟨g,0,none⟩=some (pV gq)/\ W.cell? ⟨g,3,none⟩=some (nV cf.pipe)/\ W.cell? ⟨g,18,none⟩=some (pV gr)/\ W.cell? ⟨g,19,none⟩=some (pV gp)/\ W.cell? ⟨g,25,none⟩=some (.bool false))
    (first|exact S0|exact Sd|exact X4|go_keep)
    (first
      | (go_at_call 198
         refine(hP _ Sd.1).mono ?_
         rintro e w2 ⟨rfl,rfl⟩)
      | (go_at_call 188
         refine(hQ _ Sd.1).mono ?_;rintro e w4 ⟨A4,c4,rfl,L4⟩
         have X4:=hcl w4 (stepW Sd.1 L4))
      | (go_at_call 199
         refine(hR _ X4.1).mono ?_
         rintro e w5 ⟨rfl,rfl⟩))
   go_wp2_with fail
   go_ret
   exact⟨by rw[hS.out,he,HP.out,HQ.out];rfl,X4.1⟩
end Go.Proofs.YtdmondfpepbniaaGreatDoor
