/- Part 13 of the proof: ReM. -/
import Derived.RegionDies
import Derived.Deep.LoopGhost
import Derived.IntWalk
import Derived.Test.YtdmondfpepbniaaGreatDoorQ08
namespace Go.Proofs.YtdmondfpepbniaaGreatDoor
open Go.RowKit
set_option maxRecDepth 100000
set_option maxHeartbeats 4000000
set_option linter.all false
abbrev iv (i:Int):Value:=.int .i64 i
def OI (w:World) (base:Nat) (v:Value) (l:List Int):Prop:=Own w base 3 1 v l.length (l.map iv)
theorem OI.nil (w:World) (base:Nat):OI w base (.slice none 0 0) []:=Own.nil w base _ 1
theorem Own.two {w:World} {base base' e e' s s' n n':Nat} {v v':Value} {xs ys:List Value} (h:Own w base e s v n xs) (h':Own w base' e' s' v' n' ys) (hne:e≠e'): ∀k,v.ownBlock=some k-> v'.ownBlock≠some k:=by
 intro k hk hk';rcases h.2 with⟨rfl,-⟩| ⟨g,cap,cur,fr,rfl,-,hg,-⟩
 ·cases hk
 ·rcases h'.2 with⟨rfl,-⟩| ⟨g',cap',cur',fr',rfl,-,hg',-⟩
  ·cases hk'
  ·simp[Value.ownBlock]at hk hk'
   subst hk;subst hk';rw[hg]at hg';simp at hg';exact hne hg'.2.1
theorem U0 (p:UInt8-> Bool) (h: ∀x:Fin 256,p (UInt8.ofNat x.val)=true) (b:UInt8):p b=true:=by
 have:=h ⟨b.toNat,b.toNat_lt⟩;simpa using this
structure RSt where
 r:Bs
 st:Int
 f:List Fd
 d:Bs
 q:List Int
 fin:Bool
structure RPl where
 a:Option Addr
 c:Nat
 vf:Value
 vb:Value
 vp:Value
def jH (P:Bs) (hd:Bool) (x:RPl) (k:Nat) (s:RSt):Array Value:=#[.slice x.a P.length x.c,.int .i64 (k:Int),.bool hd,.int .i64 s.st,x.vf,x.vb,x.vp,.bool s.fin]
structure RM (w:World) (g:Nat) (P:Bs) (hd:Bool) (x:RPl) (k:Nat) (s:RSt):Prop where
 blk:Blk w g 147 (jH P hd x k s)
 rd:Rd w g 1 x.a P.length (P.map bv)
 cap:P.length<= x.c
 of_:OF w (g+1) x.vf s.f
 ob:OB w (g+1) x.vb s.d
 oi:OI w (g+1) x.vp s.q
 at_:k+s.r.length=P.length
 rest:P.drop k=s.r
 nf:s.f.length<= 24
 nd:s.d.length<= k
 nq:s.q.length<= k
 st0:0<= s.st/\ s.st<= 599
def RdT (w:World) (g:Nat) (P:Bs) (hd:Bool) (s:RSt):Prop:= ∃x k,RM w g P hd x k s
abbrev pK (c:Int):List PanicEntry:= [{ v:=.iface 144 (.agg #[.int .i64 c]),recovered:=false }]
def kK {α:Type} (w:World) (g:Nat) (P:Bs) (hd:Bool) (x:R3 α) (val:α-> Value) (next:α-> Bs-> RSt) (e:Ending) (w':World):Prop:=
 Below g w w'/\ match x with
  | .short=>e= .panicked (pK 12)
  | .bad=>e= .panicked (pK 8)
  | .ok a r=>e= .returned (val a)/\ RdT w' g P hd (next a r)
theorem cO (c:Int) (w:World):Calls Tryz.prog 158 #[.int .i64 c] w fun e w'=>e= .panicked (pK c)/\ w=w':=by
 go_enter Tryz.func158,Tryz.ntmps158
 go_wp2
 exact⟨rfl,rfl,rfl⟩
namespace RM
variable {w w':World} {g:Nat} {P:Bs} {hd:Bool} {x:RPl} {k:Nat} {s:RSt}
theorem lt (q:RM w g P hd x k s):g<w.heap.size:=q.blk.lt
theorem ah (q:RM w g P hd x k s) (hb:Below w.heap.size w w'):RM w' g P hd x k s:=
 ⟨q.blk.ah hb,q.rd.below (hb.mono (Nat.le_of_lt q.lt)),q.cap,Own.ah q.of_ hb,Own.ah q.ob hb,Own.ah q.oi hb,q.at_,q.rest,q.nf,q.nd,q.nq,q.st0⟩
theorem step (q:RM w g P hd x k s) (c:UInt8) (r:Bs) (h:s.r=c::r):RM (w.setCell ⟨g,1,none⟩ (.int .i64 ((k:Int)+1))) g P hd x (k+1) { s with r:=r } :=by
 have hfr:Fr (fun i=>i=g) w (w.setCell ⟨g,1,none⟩ (.int .i64 ((k:Int)+1))):=Fr.setCell (S:=fun i=>i=g) (Fr.refl _ w) (p:=⟨g,1,none⟩) (.inl rfl) _
 have hl:=q.at_;rw[h]at hl;simp at hl;refine⟨?_,q.rd.keep fun p hp=>hfr.cell (Nat.lt_trans hp q.lt) (fun e=>by omega),q.cap,Own.fr q.of_ hfr fun i hi e=> ?_,Own.fr q.ob hfr fun i hi e=> ?_,Own.fr q.oi hfr fun i hi e=> ?_,by simp only[];omega,?_,q.nf,by have:=q.nd;simp only[];omega,by have:=q.nq;simp only[];omega,q.st0⟩
 ·have:=q.blk.ay 1 (.int .i64 ((k:Int)+1))
  rw[show(jH P hd x k s).setIfInBounds 1 (.int .i64 ((k:Int)+1))=jH P hd x (k+1) { s with r:=r } from by simp[jH]]at this
  exact this
 ·have:=(q.of_.lt i hi).1;omega
 ·have:=(q.ob.lt i hi).1;omega
 ·have:=(q.oi.lt i hi).1;omega
 ·rw[<- List.drop_drop,q.rest,h];rfl
theorem c8 (q:RM w g P hd x k s):w.cell? ⟨g,0,none⟩=some (.slice x.a P.length x.c)/\ w.cell? ⟨g,1,none⟩=some (.int .i64 (k:Int))/\ w.cell? ⟨g,2,none⟩=some (.bool hd)/\ w.cell? ⟨g,3,none⟩=some (.int .i64 s.st)/\ w.cell? ⟨g,4,none⟩=some x.vf/\ w.cell? ⟨g,5,none⟩=some x.vb/\ w.cell? ⟨g,6,none⟩=some x.vp/\ w.cell? ⟨g,7,none⟩=some (.bool s.fin)/\
 w.frozen? ⟨g,0,none⟩=false/\ w.frozen? ⟨g,1,none⟩=false/\ w.frozen? ⟨g,2,none⟩=false/\ w.frozen? ⟨g,3,none⟩=false/\ w.frozen? ⟨g,4,none⟩=false/\ w.frozen? ⟨g,5,none⟩=false/\ w.frozen? ⟨g,6,none⟩=false/\ w.frozen? ⟨g,7,none⟩=false:=
 Blk.c8 q.blk
theorem here (q:RM w g P hd x k s) (c:UInt8) (r:Bs) (h:s.r=c::r): ∃b o,x.a=some ⟨b,o,none⟩/\ b<g/\ w.cell? ⟨b,o+k,none⟩=some (bv c)/\ k<P.length:=by
 have hl:=q.at_;rw[h]at hl;simp at hl;obtain⟨b,o,h1,h2,h3⟩:=q.rd.at_ (by omega)
 refine⟨b,o,h1,h2,h3 k _ ?_,by omega⟩
 have:=q.rest;rw[h]at this;rw[List.getElem?_map,<- List.head?_drop,this];rfl
theorem drew (q:RM w g P hd x k s):RM w.drew g P hd x k s:=⟨q.blk,q.rd,q.cap,q.of_,q.ob,q.oi,q.at_,q.rest,q.nf,q.nd,q.nq,q.st0⟩
theorem drewN (q:RM w g P hd x k s) (n:Nat):RM (w.drewN n) g P hd x k s:=⟨q.blk,q.rd,q.cap,q.of_,q.ob,q.oi,q.at_,q.rest,q.nf,q.nd,q.nq,q.st0⟩
end RM
def NextP (r:Bs) (w:World) (e:Ending) (w':World):Prop:=
 (match r with
   | []=>e= .panicked (pK 12)
   |c::_=>e= .returned (bv c))/\ ∃m,w'=w.drewN m
theorem oU {w:World} {g:Nat} {P:Bs} {hd:Bool} {x:RPl} {k:Nat} {s:RSt} (q:RM w g P hd x k s) (_hP:P.length<= 1000000):
 Calls Tryz.prog 157 #[.pointer (some ⟨g,0,none⟩)] w (NextP s.r w):=by
 obtain⟨j0,j1,-⟩:=q.c8;rcases hr:s.r with _| ⟨c,r⟩
 ·have hl:=q.at_
  rw[hr]at hl;simp at hl;obtain rfl:k=P.length:=hl;clear hr;go_enter Tryz.func157,Tryz.ntmps157
  go_wp2
  go_quiet (fail)
  go_wp2_with fail
  refine(cO 12 _).mono ?_;rintro e w1 ⟨rfl,rfl⟩;exact⟨rfl,rfl,_,rfl⟩
 ·obtain⟨b,o,ha,hb,hc,hk⟩:=q.here c r hr
  rw[ha]at j0;have hne: ¬k=P.length:=by omega
  have hi0:(0:Int)<=(k:Int):=by omega
  have hi1:(k:Int)< (P.length:Int):=by omega
  have hi2:(k:Int).toNat=k:=by omega
  clear hr ha;go_enter Tryz.func157,Tryz.ntmps157
  go_wp2
  go_quiet (fail)
  go_wp2
  go_quiet (fail)
  go_wp2
  go_ret
  exact⟨rfl,_,World.drewN_drewN _ _ _⟩
theorem Jh {w:World} {g:Nat} {P:Bs} {hd:Bool} {x:RPl} {k:Nat} {s:RSt} {c:UInt8} {r:Bs} (q:RM w g P hd x k s) (hr:s.r=c::r) (hP:P.length<= 1000000) (n:Nat):
 Calls Tryz.prog 157 #[.pointer (some ⟨g,0,none⟩)] (w.drewN n) fun e w'=>e= .returned (bv c)/\ ∃m,w'=w.drewN m:=by
 refine(oU (q.drewN n) hP).mono ?_;rw[hr];rintro e w1 ⟨rfl,m,rfl⟩;exact⟨rfl,_,World.drewN_drewN _ _ _⟩
theorem uO (c d:UInt8) (a r:Bs):aK (c::a) (d::r)=if d=c then aK a r else .bad:=by rw[aK]
structure FrA (g:Nat) (w w':World):Prop where
 fr:Fr (fun i=>i=g) w w'
 cl: ∀i,i≠1-> w'.cell? ⟨g,i,none⟩=w.cell? ⟨g,i,none⟩
namespace FrA
variable {g:Nat} {w w' w'':World}
theorem refl (g:Nat) (w:World):FrA g w w:=⟨Fr.refl _ w,fun _ _=>rfl⟩
theorem trans (h:FrA g w w') (k:FrA g w' w''):FrA g w w'':=⟨Fr.trans h.fr k.fr fun _ hi=>.inl hi,fun i hi=>(k.cl i hi).trans (h.cl i hi)⟩
theorem drewN (h:FrA g w w') (n:Nat):FrA g w (w'.drewN n):=⟨Fr.drewN h.fr n,h.cl⟩
theorem on1 (h:FrA g w w') (u:Value):FrA g w (w'.setCell ⟨g,1,none⟩ u):=⟨h.fr.setCell (.inl rfl) u,fun i hi=>(World.cell?_setCell_other w' _ _ u (fun e=>hi (by injection e with _ e _;exact e.symm))).trans (h.cl i hi)⟩
theorem ah (h:FrA g w w') (L:Below w'.heap.size w' w'') (hg:g<w.heap.size):FrA g w w'':=
 ⟨Fr.trans h.fr (Fr.dB L) fun _ hi=>.inr (Nat.le_trans h.fr.size hi),fun i hi=>(L.cell (p:=⟨g,i,none⟩) (Nat.lt_of_lt_of_le hg h.fr.size)).trans (h.cl i hi)⟩
end FrA
theorem aY {w w':World} {g:Nat} (hg:g<= w.heap.size) (h:FrA g w w'):Below g w w':=h.fr.toBelow hg fun i hi=>by omega
def TextP (w:World) (g:Nat) (P:Bs) (hd:Bool) (s:RSt) (T:Bs) (e:Ending) (w':World):Prop:=
 kK w g P hd (aK T s.r) (fun _=>.tuple #[]) (fun _ r=> { s with r:=r }) e w'/\ FrA g w w'
theorem aC {α:Type} {w:World} {g:Nat} {P:Bs} {hd:Bool} {x:R3 α} {val:α-> Value} {next:α-> Bs-> RSt} {w':World} (hx:x= .bad) (hb:Below g w w'):kK w g P hd x val next (.panicked (pK 8)) w':=⟨hb,by rw[hx]⟩
theorem aA {α:Type} {w:World} {g:Nat} {P:Bs} {hd:Bool} {x:R3 α} {val:α-> Value} {next:α-> Bs-> RSt} {w':World} (hx:x= .short) (hb:Below g w w'):kK w g P hd x val next (.panicked (pK 12)) w':=⟨hb,by rw[hx]⟩
theorem bM {α:Type} {w:World} {g:Nat} {P:Bs} {hd:Bool} {x:R3 α} {val:α-> Value} {next:α-> Bs-> RSt} {w':World} {a:α} {r:Bs} {v:Value} (hx:x= .ok a r) (hv:v=val a) (hb:Below g w w') (hR:RdT w' g P hd (next a r)):kK w g P hd x val next (.returned v) w':=⟨hb,by rw[hx,hv];exact⟨rfl,hR⟩⟩
theorem Gv (T:ByteArray) {w:World} {g:Nat} {P:Bs} {hd:Bool} {s:RSt} (q:RdT w g P hd s) (hP:P.length<= 1000000) (hT:T.size<= 1000):
 Calls Tryz.prog 102 #[.pointer (some ⟨g,0,none⟩),.string T] w (TextP w g P hd s T.data.toList):=by
 have hg:g<= w.heap.size:=by obtain⟨x,k,q⟩:=q;exact Nat.le_of_lt q.lt
 go_enter Tryz.func102,Tryz.ntmps102
 go_wp2
 go_loopw [7] (fun i wr=> ∃(j:Nat) (r:Bs),j<= T.size/\ i= .int .i64 j/\ RdT wr g P hd { s with r:=r } /\ FrA g w wr/\ Hid (aK T.data.toList s.r=aK (T.data.toList.drop j) r)) (fun i _=>T.size- (intOf i).toNat)
 case atStart=>exact⟨0,s.r,Nat.zero_le _,rfl,q,FrA.refl _ _,by rw[List.drop_zero];rfl⟩
 case round=>
  obtain⟨j,r,hj,rfl,⟨x,k,q⟩,hb,H⟩:=hrel;have hbs:=PlainAid.get_bt T;by_cases hlt:j<T.size
  ·obtain⟨b,hd1,hbt⟩:=dP T j hlt
   have HD:=Lib.hid hd1;clear hd1;have hnx:=oU q.drew hP;rcases r with _| ⟨c,r⟩
   ·have HE:=Lib.hid (show aK T.data.toList s.r= .short by rw[H.out,HD.out];rfl)
    go_wp2_with fail
    have hbm:=fun m=>hb.drewN m
    go_region_dies
    all_goals (refine hnx.mono ?_;rintro e w1 ⟨rfl,m,rfl⟩;go_simp;exact⟨rfl,aA HE.out (aY hg (hbm _)),hbm _⟩)
   ·by_cases hcb:c=b
    ·subst hcb
     have HE:=Lib.hid (show aK T.data.toList s.r=aK (T.data.toList.drop (j+1)) r by rw[H.out,HD.out,uO,if_pos rfl])
     have q2:=fun m=>(q.drewN m).step c r rfl
     have hbm:=fun m=>hb.drewN m
     go_wp2_with fail
     go_quiet ((go_at_call 157;exact Jh q rfl hP _))
     obtain⟨W,hW⟩: ∃W,W=wr.drewN nq:=⟨_,rfl⟩;have q3:=q2 nq;have q4:=q.drewN nq;have hb4:=hbm nq;rw[<- hW]at q3 q4 hb4⊢;clear hW q2 hbm hnx q hb;obtain⟨j0,j1,-,-,-,-,-,-,-,i1,-⟩:=q4.c8;have hk1:(k:Int)<= 1000000:=by have:=q4.at_;omega
     go_wp2
     go_roundw
     case rel=>exact⟨j+1,r,by omega,by go_num,⟨x,k+1,q3⟩,hb4.on1 _,HE⟩
     case measure=>simp[intOf];omega
    ·have HE:=Lib.hid (show aK T.data.toList s.r= .bad by rw[H.out,HD.out,uO,if_neg hcb])
     have hne:((c.toNat:Int)==(b.toNat:Int))=false:=by
      rw[Bool.eq_false_iff];intro h;exact hcb (UInt8.toNat_inj.1 (by have:=beq_iff_eq.1 h;omega))
     have hne2: ¬c.toNat=b.toNat:=fun h=>hcb (UInt8.toNat_inj.1 h)
     have hbm:=fun m=>hb.drewN m
     clear hcb;go_wp2_with fail
     go_quiet ((go_at_call 157;exact Jh q rfl hP _))
     go_wp2_with fail
     refine(cO 8 _).mono ?_;rintro e w1 ⟨rfl,rfl⟩;exact⟨rfl,aC HE.out (aY hg (hbm _)),hbm _⟩
  ·obtain rfl:j=T.size:=by omega
   have HE:=Lib.hid (show aK T.data.toList s.r= .ok () r by rw[H.out,List.drop_of_length_le (by rw[au];exact Nat.le_refl _)];rfl)
   have hR:RdT wr g P hd { s with r:=r } :=⟨x,k,q⟩
   go_wp2
   go_end0
   exact⟨bM HE.out rfl (aY hg hb) hR,hb⟩
def IsP (f:FuncId) (p:UInt8-> Bool):Prop:=(∀(args:Array Value) (w:World),(callFunc f args).run Tryz.prog w= .ok (.enter f args) w)/\ ∀(c:UInt8) (w:World),Calls Tryz.prog f #[.int .u8 (c.toNat:Int)] w fun e w'=>e= .returned (.bool (p c))/\ Below w.heap.size w w'
theorem uP (c:UInt8) (w:World):Calls Tryz.prog 107 #[.int .u8 (c.toNat:Int)] w fun e w'=>e= .returned (.bool (dgB c))/\ w=w':=by
 go_enter Tryz.func107,Tryz.ntmps107
 go_wp2
 all_goals (go_ret;exact⟨fO (by rw[Bool.eq_iff_iff];simp[dgB];try omega),rfl⟩)
theorem U1:IsP 107 dgB:=⟨fun _ _=>by kernel_rfl,fun c w=>(uP c w).mono fun _ _ ⟨h1,h2⟩=>⟨h1,h2▸Below.refl _ _⟩⟩
theorem aan:IsP 163 hxB:=by
 refine⟨fun _ _=>by kernel_rfl,fun c w=> ?_⟩
 have hd:=uP c w;have HX:=Lib.hid (show hxB c=(dgB c||decide (97<= c.toNat/\ c.toNat<= 102))from rfl)
 generalize dgB c=b at*;cases b
 ·go_enter Tryz.func163,Tryz.ntmps163
  go_wp2_with fail
  refine hd.mono ?_;rintro e w1 ⟨rfl,rfl⟩;go_wp2
  all_goals (go_ret;exact⟨fO (by rw[HX.out,Bool.eq_iff_iff];simp;try omega),Below.refl _ _⟩)
 ·go_enter Tryz.func163,Tryz.ntmps163
  go_wp2_with fail
  refine hd.mono ?_;rintro e w1 ⟨rfl,rfl⟩;go_wp2
  go_ret
  exact⟨fO (by rw[HX.out];rfl),Below.refl _ _⟩
theorem U2:IsP 202 tkB:=by
 refine⟨fun _ _=>by kernel_rfl,fun c w=> ?_⟩
 have hcv:=kL (P:=Tryz.prog) 33 5 9 Tryz.underlying33 Tryz.underlying5 Tryz.underlying9;have LW:=aj (Below.refl w.heap.size w) (.cells #[.int .u8 (c.toNat:Int)] 5);have HT:=Lib.hid (show(allT (⟨#[c]⟩:ByteArray).data.toList&&decide (0< (⟨#[c]⟩:ByteArray).data.toList.length))=tkB c by simp[allT,tkB])
 have ht:=fun w=>gG ⟨#[c]⟩ w (by show 1<= _;decide)
 rw[HT.out]at ht;go_enter Tryz.func202,Tryz.ntmps202
 go_wp2_with fail
 refine(ht _).mono ?_;rintro e w1 ⟨rfl,rfl⟩;go_wp2
 go_ret
 exact⟨rfl,LW⟩
theorem is_value:IsP 205 vlB:=by
 refine⟨fun _ _=>by kernel_rfl,fun c w=> ?_⟩
 have hcv:=kL (P:=Tryz.prog) 33 5 9 Tryz.underlying33 Tryz.underlying5 Tryz.underlying9;have LW:=aj (Below.refl w.heap.size w) (.cells #[.int .u8 (c.toNat:Int)] 5);have HT:=Lib.hid (show wZ (⟨#[c]⟩:ByteArray).data.toList=vlB c by simp[wZ,vlB])
 have ht:=fun w=>lM ⟨#[c]⟩ w (by show 1<= _;decide)
 rw[HT.out]at ht;go_enter Tryz.func205,Tryz.ntmps205
 go_wp2_with fail
 refine(ht _).mono ?_;rintro e w1 ⟨rfl,rfl⟩;go_wp2
 go_ret
 exact⟨rfl,LW⟩
theorem wB {B:Nat} {w w1:World} (h:Below B w.drew w1):Below B w w1:=⟨h.os,h.tape,h.output,h.size,h.block⟩
theorem wC {w:World} {B n:Nat} {A:Option Addr} {l:Bs} (c lo hi:Nat) (hr:Rd w B 1 A n (l.map bv)) (hlo:lo<= hi) (hhi:hi<= n) (hc:n<= c):
 ∃A' c',hi-lo<= c'/\ (∀w:World,(Instr.sliceAt 33 (.slice A n c) (some (.int .i64 (lo:Int))) (some (.int .i64 (hi:Int))) none).run Tryz.prog w= .ok (.slice A' (hi-lo) c') w)/\ Rd w B 1 A' (hi-lo) (((l.drop lo).take (hi-lo)).map bv):=by
 have hu:Tryz.prog.underlying 33=some (.slice (Tryz.prog.elem 33)):=by kernel_rfl
 have hz: ∀w:World,(sizeOf (Tryz.prog.elem 33)).run Tryz.prog w= .ok 1 w:=fun w=>by kernel_rfl
 refine⟨if c=lo then A else A.map (·.add (lo*1)),c-lo,by omega,fun w=> ?_,?_⟩
 ·rw[run_sliceAt_slice w 33 _ _ _ _ hu,run_slice_lh w 33 A n c hu .i64 .i64 lo hi (by omega) (by omega) (by omega),hz]
  simp[Result.andThen,sliced]
 ·split
  ·have h0:hi-lo=0:=by omega
   rw[h0,List.take_zero];exact Rd.nil _ _ _ _
  ·have h1:=(hr.cutFrom (k:=lo) (by omega)).zI (k:=hi-lo) (by omega)
   rw[Nat.mul_one,Nat.mul_one]at h1;rw[List.map_take,List.map_drop];rw[Nat.mul_one];exact h1
def dI (p:UInt8-> Bool) (most:Nat) (r:Bs):Bs:=(r.take most).takeWhile p
theorem Qg (p:UInt8-> Bool) (most:Nat):dI p most []= []:=by simp[dI]
theorem LY (p:UInt8-> Bool) (r:Bs):dI p 0 r= []:=by simp[dI]
theorem U3 (p:UInt8-> Bool) (most:Nat) (c:UInt8) (r:Bs) (h:p c=false):dI p most (c::r)= []:=by
 cases most<;>simp[dI,h]
theorem Qh (p:UInt8-> Bool) (most:Nat) (c:UInt8) (r:Bs) (h:p c=true):dI p (most+1) (c::r)=c::dI p most r:=by
 simp[dI,h]
def aao (w:World) (g:Nat) (P:Bs) (hd:Bool) (s:RSt) (a:Bs) (e:Ending) (w':World):Prop:=
 e= .returned (sv a)/\ RdT w' g P hd { s with r:=s.r.drop a.length } /\ FrA g w w'
theorem Bg (f:FuncId) (p:UInt8-> Bool) (hf:IsP f p) (most:Nat) {w:World} {g:Nat} {P:Bs} {hd:Bool} {s:RSt} (q:RdT w g P hd s) (hP:P.length<= 1000000) (_hm:most<= 1000000):
 Calls Tryz.prog 167 #[.pointer (some ⟨g,0,none⟩),.int .i64 (most:Int),.func (.func f) #[] #[]] w (aao w g P hd s (dI p most s.r)):=by
 obtain⟨x,k0,q⟩:=q;obtain⟨hcf,hf⟩:=hf;obtain⟨j0,j1,-⟩:=q.c8;go_enter Tryz.func167,Tryz.ntmps167
 go_wp2
 go_loopg [] s.r.length (fun gk wr=> ∃(j:Nat) (r:Bs),j+gk=s.r.length/\ r.length=gk/\ s.r.drop j=r/\ RM wr g P hd x (k0+j) { s with r:=r } /\ FrA g w wr/\ j<= most/\ Hid (dI p most s.r=s.r.take j++dI p (most-j) r))
 case atStart=>exact⟨0,s.r,by omega,rfl,rfl,q,FrA.refl _ _,Nat.zero_le _,by rw[List.take_zero];rfl⟩
 case round=>
  obtain⟨j,r,hj,hr,hdr,q1,hb,hjm,H⟩:=hrel;have hat:=q1.at_;simp only[]at hat;generalize hK:k0+j=K at*;have HK:=Lib.hid hK;have hk0:k0<= K:=by omega
  clear hK;obtain⟨j0,j1,-,-,-,-,-,-,-,i1,-⟩:=q1.c8;have hbm:=fun m=>hb.drewN m
  have qm:=fun m=>q1.drewN m
  rcases r with _| ⟨c,r⟩
  ·have HE:=Lib.hid (show s.r.take j=dI p most s.r by rw[H.out,Qg,List.append_nil])
   have hkP:K=P.length:=by simpa using hat
   have hge: ¬K<P.length:=by omega
   have hgi: ¬(K:Int)< (P.length:Int):=by omega
   have hlen:=congrArg List.length HE.out;rw[List.length_take]at hlen;have HF:=Lib.hid (fun(V:World) (h:RM V g P hd x K { s with r:= [] })=>(⟨x,K,by rw[show s.r.drop (dI p most s.r).length= []from by rw[<- hlen,Nat.min_eq_left (by omega),hdr]];exact h⟩:RdT V g P hd { s with r:=s.r.drop (dI p most s.r).length }))
   clear hkP hat hj hr hlen hdr;go_wp2_with fail
   go_quiet (fail)
   obtain⟨W,hW⟩: ∃W,W=wr.drewN nq:=⟨_,rfl⟩;have QF:=qm nq;have hbF:=hbm nq;rw[<- hW]at QF hbF⊢;clear hW qm hbm j0 j1 i1 q1 hb;obtain⟨f0,f1,-,-,-,-,-,-,-,-,-⟩:=QF.c8;have hKP:K<= P.length:=by have:=QF.at_;omega
   obtain⟨A',c',hc',hsl,hrd⟩:=wC x.c k0 K QF.rd hk0 hKP QF.cap;have hl:(P.drop k0).take (K-k0)=dI p most s.r:=by rw[q.rest,<- HE.out,<- HK.out,Nat.add_sub_cancel_left]
   rw[hl]at hrd;have hcv:=fun m=>iD (P:=Tryz.prog) (hrd.drewN m) c' 33 5 9 Tryz.underlying33 Tryz.underlying5 Tryz.underlying9
   clear hl hrd HE;go_wp2_with fail
   go_quiet (fail)
   go_wp2
   go_ret
   exact⟨rfl,HF.out _ (QF.drewN _),hbF.drewN _⟩
  ·have hkl:K<P.length:=by simp at hat;omega
   have hki:(K:Int)< (P.length:Int):=by omega
   have hK1:(K:Int)<= 1000000:=by omega
   obtain⟨b,o,ha,hbg,hc,-⟩:=q1.here c r rfl;have hi0:(0:Int)<=(K:Int):=by omega
   have hi2:(K:Int).toNat=K:=by omega
   have hwr:IntKind.i64.wrap ((K:Int)- (k0:Int))=(K:Int)- (k0:Int):=IntWalk.i64_in _ (by omega)
   have HF0:=Lib.hid (fun(hx:s.r.take j=dI p most s.r) (V:World) (h:RM V g P hd x K { s with r:=c::r })=>(⟨x,K,by rw[show s.r.drop (dI p most s.r).length=c::r from by have:=congrArg List.length hx;rw[List.length_take]at this;rw[<- this,Nat.min_eq_left (by omega),hdr]];exact h⟩:RdT V g P hd { s with r:=s.r.drop (dI p most s.r).length }))
   have hjK:=HK.out;rcases Nat.lt_or_ge j most with hlt|hge
   ·have hd1:(K:Int)- (k0:Int)< (most:Int):=by omega
    rw[ha]at j0;have S0:wr.cell? ⟨g,0,none⟩=some (.slice (some ⟨b,o,none⟩) P.length x.c)/\ wr.cell? ⟨g,1,none⟩=some (.int .i64 (K:Int))/\ wr.cell? ⟨b,o+K,none⟩=some (bv c):=⟨j0,j1,hc⟩;have hS: ∀w1,Below wr.heap.size wr w1-> w1.cell? ⟨g,0,none⟩=some (.slice (some ⟨b,o,none⟩) P.length x.c)/\ w1.cell? ⟨g,1,none⟩=some (.int .i64 (K:Int))/\ w1.cell? ⟨b,o+K,none⟩=some (bv c):=
     fun w1 L=>⟨(L.cell (p:=⟨g,0,none⟩) q1.lt).trans j0,(L.cell (p:=⟨g,1,none⟩) q1.lt).trans j1,(L.cell (p:=⟨b,o+K,none⟩) (Nat.lt_trans hbg q1.lt)).trans hc⟩
    have HS:=Lib.hid hS;clear hS;cases hp:p c
    ·have HE:=Lib.hid (show s.r.take j=dI p most s.r by rw[H.out,U3 p _ c r hp,List.append_nil])
     have HF:=Lib.hid (HF0.out HE.out);have HA:=Lib.hid ha;have hcl:=fun w=>hf c w
     rw[hp]at hcl;clear hjK hp hdr hj hr hat HF0;go_wp2_with fail
     go_region_held3 (fun w'=>w'.cell? ⟨g,0,none⟩=some (.slice (some ⟨b,o,none⟩) P.length x.c)/\ w'.cell? ⟨g,1,none⟩=some (.int .i64 (K:Int))/\ w'.cell? ⟨b,o+K,none⟩=some (bv c)) (first|with_reducible exact S0|with_reducible exact S5|go_keep) ((refine(hcl _).mono ?_;rintro e w1 ⟨rfl,L1⟩;have L2:=wB L1;have S5:=HS.out w1 L2))
     have QF:=q1.ah L2;have hbF:=hb.ah L2 q.lt;clear j0 j1 S0 S5 HS hcl ha hc L1 hbm qm i1 q1 hb L2;obtain⟨f0,f1,-,-,-,-,-,-,-,-,-⟩:=QF.c8;have hKP:K<= P.length:=by have:=QF.at_;omega
     obtain⟨A',c',hc',hsl,hrd⟩:=wC x.c k0 K QF.rd hk0 hKP QF.cap;rw[HA.out]at f0 hsl;have hl:(P.drop k0).take (K-k0)=dI p most s.r:=by rw[q.rest,<- HE.out,<- HK.out,Nat.add_sub_cancel_left]
     rw[hl]at hrd;have hcv:=fun m=>iD (P:=Tryz.prog) (hrd.drewN m) c' 33 5 9 Tryz.underlying33 Tryz.underlying5 Tryz.underlying9
     clear hl hrd HE;go_wp2_with fail
     go_quiet (fail)
     go_wp2
     go_ret
     exact⟨rfl,HF.out _ (QF.drewN _),hbF.drewN _⟩
    ·have hnext:s.r.take (j+1)=s.r.take j++ [c]:=by
      rw[List.take_add_one];congr 1
      rw[<- List.head?_drop,hdr];rfl
     have HN:=Lib.hid (show dI p most s.r=s.r.take (j+1)++dI p (most- (j+1)) r by rw[H.out,hnext,show most-j=most- (j+1)+1 by omega,Qh p _ c r hp];simp)
     have HD:=Lib.hid (show s.r.drop (j+1)=r by rw[<- List.drop_drop,hdr];rfl)
     have hcl:=fun w=>hf c w
     rw[hp]at hcl;clear hjK hp hdr hnext hat HF0;go_wp2_with fail
     go_region_held3 (fun w'=>w'.cell? ⟨g,0,none⟩=some (.slice (some ⟨b,o,none⟩) P.length x.c)/\ w'.cell? ⟨g,1,none⟩=some (.int .i64 (K:Int))/\ w'.cell? ⟨b,o+K,none⟩=some (bv c)) (first|with_reducible exact S0|with_reducible exact S5|go_keep) ((refine(hcl _).mono ?_;rintro e w1 ⟨rfl,L1⟩;have L2:=wB L1;have S5:=HS.out w1 L2))
     have QF:=q1.ah L2;have hbF:=hb.ah L2 q.lt;have QS:=QF.step c r rfl;obtain⟨f0,f1,-,-,-,-,-,-,-,fi1,-⟩:=QF.c8;rw[ha]at f0;clear j0 j1 S0 S5 HS hcl hc L1 hbm qm i1 q1 hb L2;go_wp2
     go_roundg r.length
     case rel=>exact⟨j+1,r,by simp at hr;omega,rfl,HD.out,by rw[show k0+(j+1)=K+1 by have:=HK.out;omega];exact QS,hbF.on1 _,by omega,HN⟩
     case measure=>simp at hr;omega
   ·have hd1: ¬(K:Int)- (k0:Int)< (most:Int):=by omega
    have hd2:decide ((K:Int)- (k0:Int)< (most:Int))=false:=by simpa using hd1
    have HE:=Lib.hid (show s.r.take j=dI p most s.r by rw[H.out,show most-j=0 by omega,LY,List.append_nil])
    have HF:=Lib.hid (HF0.out HE.out);clear hjK hdr hj hr hat HF0 ha hc hbg;go_wp2_with fail
    go_quiet (fail)
    obtain⟨W,hW⟩: ∃W,W=wr.drewN nq:=⟨_,rfl⟩;have QF:=qm nq;have hbF:=hbm nq;rw[<- hW]at QF hbF⊢;clear hW qm hbm j0 j1 i1 q1 hb;obtain⟨f0,f1,-,-,-,-,-,-,-,-,-⟩:=QF.c8;have hKP:K<= P.length:=by have:=QF.at_;omega
    obtain⟨A',c',hc',hsl,hrd⟩:=wC x.c k0 K QF.rd hk0 hKP QF.cap;have hl:(P.drop k0).take (K-k0)=dI p most s.r:=by rw[q.rest,<- HE.out,<- HK.out,Nat.add_sub_cancel_left]
    rw[hl]at hrd;have hcv:=fun m=>iD (P:=Tryz.prog) (hrd.drewN m) c' 33 5 9 Tryz.underlying33 Tryz.underlying5 Tryz.underlying9
    clear hl hrd HE;go_wp2_with fail
    go_quiet (fail)
    go_wp2
    go_ret
    exact⟨rfl,HF.out _ (QF.drewN _),hbF.drewN _⟩
structure RK (w:World) (g:Nat) (cs:Array Value) (P:Bs) (x:RPl) (F:List Fd) (D:Bs) (Q:List Int):Prop where
 blk:Blk w g 147 cs
 rd:Rd w g 1 x.a P.length (P.map bv)
 of_:OF w (g+1) x.vf F
 ob:OB w (g+1) x.vb D
 oi:OI w (g+1) x.vp Q
theorem RM.rk {w:World} {g:Nat} {P:Bs} {hd:Bool} {x:RPl} {k:Nat} {s:RSt} (q:RM w g P hd x k s):RK w g (jH P hd x k s) P x s.f s.d s.q:=⟨q.blk,q.rd,q.of_,q.ob,q.oi⟩
namespace RK
variable {w w':World} {g:Nat} {cs:Array Value} {P:Bs} {x:RPl} {F F':List Fd} {D D':Bs} {Q Q':List Int}
theorem ay (q:RK w g cs P x F D Q) (i:Nat) (u:Value):RK (w.setCell ⟨g,i,none⟩ u) g (cs.setIfInBounds i u) P x F D Q:=by
 have hfr:Fr (fun j=>j=g) w (w.setCell ⟨g,i,none⟩ u):=Fr.setCell (S:=fun j=>j=g) (Fr.refl _ w) (p:=⟨g,i,none⟩) (.inl rfl) _
 exact⟨q.blk.ay i u,q.rd.keep fun p hp=>hfr.cell (Nat.lt_trans hp q.blk.lt) (fun e=>by omega),Own.fr q.of_ hfr fun j hj e=>by have:=(q.of_.lt j hj).1;omega,
  Own.fr q.ob hfr fun j hj e=>by have:=(q.ob.lt j hj).1;omega,Own.fr q.oi hfr fun j hj e=>by have:=(q.oi.lt j hj).1;omega⟩
theorem rdX (q:RK w g cs P x F D Q) {v v':Value} (hx:Ext w w' v v') (hv: ∀k,v.ownBlock=some k-> g+1<= k):Rd w' g 1 x.a P.length (P.map bv):=
 q.rd.keep fun p hp=>hx.fr.cell (Nat.lt_trans hp q.blk.lt) (fun e=>by have:=hv _ e;omega)
theorem Dh (q:RK w g cs P x F D Q) {v':Value} (hx:Ext w w' x.vb v') (ho:OB w' (g+1) v' D'):RK w' g cs P { x with vb:=v' } F D' Q:=
 ⟨q.blk.fr hx.fr fun e=>by have:=(q.ob.lt _ e).1;omega,q.rdX hx fun k hk=>(q.ob.lt k hk).1,Own.fr q.of_ hx.fr (Own.two q.of_ q.ob (by decide)),ho,Own.fr q.oi hx.fr (Own.two q.oi q.ob (by decide))⟩
theorem extF (q:RK w g cs P x F D Q) {v':Value} (hx:Ext w w' x.vf v') (ho:OF w' (g+1) v' F'):RK w' g cs P { x with vf:=v' } F' D Q:=
 ⟨q.blk.fr hx.fr fun e=>by have:=(q.of_.lt _ e).1;omega,q.rdX hx fun k hk=>(q.of_.lt k hk).1,ho,Own.fr q.ob hx.fr (Own.two q.ob q.of_ (by decide)),Own.fr q.oi hx.fr (Own.two q.oi q.of_ (by decide))⟩
theorem extP (q:RK w g cs P x F D Q) {v':Value} (hx:Ext w w' x.vp v') (ho:OI w' (g+1) v' Q'):RK w' g cs P { x with vp:=v' } F D Q':=
 ⟨q.blk.fr hx.fr fun e=>by have:=(q.oi.lt _ e).1;omega,q.rdX hx fun k hk=>(q.oi.lt k hk).1,Own.fr q.of_ hx.fr (Own.two q.of_ q.oi (by decide)),Own.fr q.ob hx.fr (Own.two q.ob q.oi (by decide)),ho⟩
theorem ah (q:RK w g cs P x F D Q) (hb:Below w.heap.size w w'):RK w' g cs P x F D Q:=
 ⟨q.blk.ah hb,q.rd.below (hb.mono (Nat.le_of_lt q.blk.lt)),Own.ah q.of_ hb,Own.ah q.ob hb,Own.ah q.oi hb⟩
end RK
theorem RM.of {w:World} {g:Nat} {cs:Array Value} {P:Bs} {hd:Bool} {x:RPl} {k:Nat} {s:RSt} (q:RK w g cs P x s.f s.d s.q) (hcs:cs=jH P hd x k s) (hc:P.length<= x.c) (ha:k+s.r.length=P.length) (hr:P.drop k=s.r) (hf:s.f.length<= 24) (hd':s.d.length<= k) (hq:s.q.length<= k) (hs:0<= s.st/\ s.st<= 599):RM w g P hd x k s:=
 ⟨hcs▸q.blk,q.rd,hc,q.of_,q.ob,q.oi,ha,hr,hf,hd',hq,hs⟩
theorem Qi (most:Nat) (p:UInt8-> Bool) (r:Bs):jl most p (48::r)= .ok [48] r:=by rw[jl,if_pos rfl]
theorem U4 (most:Nat) (p:UInt8-> Bool) (c:UInt8) (r:Bs) (h:c≠48) (h2:dI p most (c::r)= []):jl most p (c::r)= .bad:=by rw[jl,if_neg h];exact if_pos h2
theorem Qj (most:Nat) (p:UInt8-> Bool) (c:UInt8) (r:Bs) (h:c≠48) (h2:dI p most (c::r)≠[]):jl most p (c::r)= .ok (dI p most (c::r)) ((c::r).drop (dI p most (c::r)).length):=by rw[jl,if_neg h];exact if_neg h2
theorem Ei (f:FuncId) (p:UInt8-> Bool) (hf:IsP f p) (most:Nat) {w:World} {g:Nat} {P:Bs} {hd:Bool} {s:RSt} (q:RdT w g P hd s) (hP:P.length<= 1000000) (hm:most<= 1000000):
 Calls Tryz.prog 106 #[.pointer (some ⟨g,0,none⟩),.int .i64 (most:Int),.func (.func f) #[] #[]] w (kK w g P hd (jl most p s.r) (fun a=>sv a) (fun _ r=> { s with r:=r })):=by
 have hwh:=fun(w:World) (q:RdT w g P hd s)=>Bg f p hf most q hP hm
 obtain⟨x,k,q⟩:=q;have hnx:=oU q hP;rcases hr:s.r with _| ⟨c,r⟩
 ·rw[hr]at hnx
  go_enter Tryz.func106,Tryz.ntmps106
  go_wp2_with fail
  refine hnx.mono ?_;rintro e w1 ⟨rfl,m,rfl⟩;exact⟨rfl,aA rfl (below_drewN' (Below.refl _ _) _)⟩
 ·rw[hr]at hnx
  by_cases hc:c=48
  ·subst hc
   have HE:=Lib.hid (Qi most p r);go_enter Tryz.func106,Tryz.ntmps106
   go_wp2_with fail
   refine hnx.mono ?_;rintro e w1 ⟨rfl,m,rfl⟩;have q1:=q.drewN m;have q2:=q1.step 48 r hr;have hb:Below g w (w.drewN m):=below_drewN' (Below.refl _ _) m;obtain⟨W,hW⟩: ∃W,W=w.drewN m:=⟨_,rfl⟩;rw[<- hW]at q1 q2 hb⊢;obtain⟨-,j1,-,-,-,-,-,-,-,i1,-⟩:=q1.c8;have hk1:(k:Int)<= 1000000:=by have:=q1.at_;omega
   clear hW hr hnx;go_wp2
   go_ret
   exact bM HE.out rfl (hb.setCell (Nat.le_refl _) _) ⟨x,k+1,q2⟩
  ·have hcb:((c.toNat:Int)==48)=false:=by
    rw[Bool.eq_false_iff];intro h;exact hc (UInt8.toNat_inj.1 (by have:=beq_iff_eq.1 h;show c.toNat=48;omega))
   have hcb2: ¬(c.toNat:Int)=48:=by simpa using hcb
   have HR:=Lib.hid hr;have HN:=Lib.hid (U4 most p c r hc);have HS:=Lib.hid (Qj most p c r hc);rw[<- hr]at HN HS;have hw2:=fun m=>hwh (w.drewN m) ⟨x,k,q.drewN m⟩
   have hgl:g<w.heap.size:=q.lt;clear hc hr;go_enter Tryz.func106,Tryz.ntmps106
   go_wp2_with fail
   refine hnx.mono ?_;rintro e w1 ⟨rfl,m,rfl⟩;go_wp2_with fail
   refine(hw2 m).mono ?_;rintro e w2 ⟨rfl,q3,L3⟩;have hb:Below g w w2:=(below_drewN' (Below.refl _ _) m).trans (aY (Nat.le_of_lt hgl) L3);generalize dI p most s.r=a at*;rcases a with _| ⟨d,a⟩
   ·have HE:=Lib.hid (HN.out rfl)
    go_wp2_with fail
    refine(cO 8 _).mono ?_;rintro e w4 ⟨rfl,rfl⟩;exact⟨rfl,aC (by rw[<- HR.out];exact HE.out) hb⟩
   ·have HE:=Lib.hid (HS.out (by simp))
    go_wp2
    go_ret
    exact bM (by rw[<- HR.out];exact HE.out) rfl hb q3
theorem LZ (n:Nat) (r:Bs) (h:r.length<n):jm n r= .short:=by rw[jm,if_pos h]
theorem YA (n:Nat) (r:Bs) (h: ¬r.length<n):jm n r= .ok (r.take n) (r.drop n):=by rw[jm,if_neg h]
theorem Oe (n:Nat) {w:World} {g:Nat} {P:Bs} {hd:Bool} {s:RSt} (q:RdT w g P hd s) (hP:P.length<= 1000000) (hn:n<= 4503599627370496):
 Calls Tryz.prog 108 #[.pointer (some ⟨g,0,none⟩),.int .i64 (n:Int)] w (kK w g P hd (jm n s.r) (fun _=>.tuple #[]) (fun d r=> { s with r:=r,d:=s.d++d })):=by
 obtain⟨x,k,q⟩:=q;obtain⟨j0,j1,-,-,-,j5,-,-,-,i1,-,-,-,i5,-⟩:=q.c8;have hat:=q.at_;have hwr:IntKind.i64.wrap ((P.length:Int)- (k:Int))=(P.length:Int)- (k:Int):=IntWalk.i64_in _ (by omega)
 by_cases hlt:s.r.length<n
 ·have HE:=Lib.hid (LZ n s.r hlt)
  have hgt:(P.length:Int)- (k:Int)< (n:Int):=by omega
  clear hlt;go_enter Tryz.func108,Tryz.ntmps108
  go_wp2_with fail
  go_quiet (fail)
  go_wp2_with fail
  refine(cO 12 _).mono ?_;rintro e w1 ⟨rfl,rfl⟩;exact⟨rfl,aA HE.out (below_drewN' (Below.refl _ _) _)⟩
 ·have HE:=Lib.hid (YA n s.r hlt)
  have hgt: ¬(P.length:Int)- (k:Int)< (n:Int):=by omega
  have hgt2:decide ((P.length:Int)- (k:Int)< (n:Int))=false:=by simpa using hgt
  obtain⟨K,hK⟩: ∃K,K=k+n:=⟨_,rfl⟩;have HK:=Lib.hid hK;have hkK:k<= K:=by omega
  have hKP:K<= P.length:=by omega
  have hws:IntKind.i64.wrap ((k:Int)+(n:Int))=(K:Int):=by rw[IntWalk.i64_in _ (by omega)];omega
  obtain⟨A',c',hc',hsl,hrd⟩:=wC x.c k K q.rd hkK hKP q.cap;have hl:(P.drop k).take (K-k)=s.r.take n:=by rw[q.rest,hK,Nat.add_sub_cancel_left]
  rw[hl]at hrd;have hnd:=q.nd;have htl:(s.r.take n).length<= 1000000:=by rw[List.length_take];omega
  clear hl hlt hK;have qk:=q.rk;have ob:=q.ob;go_enter Tryz.func108,Tryz.ntmps108
  go_wp2_with fail
  go_quiet (fail)
  go_wp2_with fail
  obtain⟨W,hW⟩: ∃W,W=w.drewN nq:=⟨_,rfl⟩;have Q1:=q.drewN nq;have hb1:Below g w (w.drewN nq):=below_drewN' (Below.refl _ _) nq;have xY:=hrd.drewN nq;rw[<- hW]at Q1 hb1 xY⊢;clear hW j0 j1 i1 i5 j5 hrd hgt hgt2 hwr qk ob;obtain⟨j0,j1,-,-,-,j5,-,-,-,i1,-,-,-,i5,-⟩:=Q1.c8;have qk:=Q1.rk;have ob:=qk.ob;have hg1:g+1<= W.heap.size:=Q1.lt;have hK6:=fun(V:World) (u:Value) (h:V.cell? ⟨g,0,none⟩=some (.slice x.a P.length x.c)/\ V.cell? ⟨g,1,none⟩=some (.int .i64 (k:Int)))=>(⟨(World.cell?_setCell_other V _ _ u (by simp)).trans h.1,(World.cell?_setCell_other V _ _ u (by simp)).trans h.2⟩:(V.setCell ⟨g,5,none⟩ u).cell? ⟨g,0,none⟩=some (.slice x.a P.length x.c)/\ (V.setCell ⟨g,5,none⟩ u).cell? ⟨g,1,none⟩=some (.int .i64 (k:Int)))
  have S0:W.cell? ⟨g,0,none⟩=some (.slice x.a P.length x.c)/\ W.cell? ⟨g,1,none⟩=some (.int .i64 (k:Int)):=⟨j0,j1⟩;refine wp_region_noPanic ?_;refine wp_region_held_drew (S:=fun w'=>w'.cell? ⟨g,0,none⟩=some (.slice x.a P.length x.c)/\ w'.cell? ⟨g,1,none⟩=some (.int .i64 (k:Int))) (by kernel_rfl) S0 (fun hHeld=> ?_)
  refine wpAnyH_take (i:=0) (v:= ?_) rfl (by kernel_rfl) (by kernel_rfl) (by kernel_rfl) (fun _ _ _ h=>h) (Or.inl ⟨by rfl,?_⟩) (by assumption) ?_
  rotate_left
  ·intro w9 hSw
   (try dsimp only at hSw)
   go_simp<;>with_reducible rfl
  (try simp only[Act.put,List.setIfInBounds_toArray])
  refine wpAnyH_take (i:=1) (v:= ?_) rfl (by kernel_rfl) (by kernel_rfl) (by kernel_rfl) (fun _ _ _ h=>h) (Or.inl ⟨by rfl,?_⟩) (by assumption) ?_
  rotate_left
  ·intro w9 hSw
   (try dsimp only at hSw)
   go_simp<;>with_reducible rfl
  (try simp only[Act.put])
  refine wpAnyH_take (i:=2) (v:= ?_) rfl (by kernel_rfl) (by kernel_rfl) (by kernel_rfl) (fun _ _ _ h=>h) (Or.inl ⟨by rfl,?_⟩) (by assumption) ?_
  rotate_left
  ·intro w9 hSw
   (try dsimp only at hSw)
   go_simp<;>with_reducible rfl
  (try simp only[Act.put])
  refine wpAnyH_take (i:=3) (v:= ?_) rfl (by kernel_rfl) (by kernel_rfl) (by kernel_rfl) (fun _ _ _ h=>h) (Or.inl ⟨by rfl,?_⟩) (by assumption) ?_
  rotate_left
  ·intro w9 hSw
   (try dsimp only at hSw)
   go_simp<;>with_reducible rfl
  (try simp only[Act.put])
  refine wpAnyH_take (i:=4) (v:= ?_) rfl (by kernel_rfl) (by kernel_rfl) (by kernel_rfl) (fun _ _ _ h=>h) (Or.inl ⟨by rfl,?_⟩) (by assumption) ?_
  rotate_left
  ·intro w9 hSw
   (try dsimp only at hSw)
   go_simp<;>with_reducible rfl
  (try simp only[Act.put])
  refine wpAnyH_take (i:=6) (v:= ?_) rfl (by kernel_rfl) (by kernel_rfl) (by kernel_rfl) (fun _ _ _ h=>h) (Or.inl ⟨by rfl,?_⟩) (by assumption) ?_
  rotate_left
  ·intro w9 hSw
   (try dsimp only at hSw)
   go_simp<;>with_reducible rfl
  (try simp only[Act.put])
  refine wpAnyH_take (i:=7) (v:= ?_) rfl (by kernel_rfl) (by kernel_rfl) (by kernel_rfl) (fun _ _ _ h=>h) (Or.inl ⟨by rfl,?_⟩) (by assumption) ?_
  rotate_left
  ·intro w9 hSw
   (try dsimp only at hSw)
   go_simp<;>with_reducible rfl
  (try simp only[Act.put])
  refine wpAnyH_take (i:=8) (v:= ?_) rfl (by kernel_rfl) (by kernel_rfl) (by kernel_rfl) (fun _ _ _ h=>h) (Or.inl ⟨by rfl,?_⟩) (by assumption) ?_
  rotate_left
  ·intro w9 hSw
   (try dsimp only at hSw)
   go_simp<;>with_reducible rfl
  (try simp only[Act.put])
  refine wpAnyH_take (i:=9) (v:= ?_) rfl (by kernel_rfl) (by kernel_rfl) (by kernel_rfl) (fun _ _ _ h=>h) (Or.inl ⟨by rfl,?_⟩) (by assumption) ?_
  rotate_left
  ·intro w9 hSw
   (try dsimp only at hSw)
   go_simp<;>with_reducible rfl
  (try simp only[Act.put])
  refine wpAnyH_take (i:=10) (v:= ?_) rfl (by kernel_rfl) (by kernel_rfl) (by kernel_rfl) (fun _ _ _ h=>h) (Or.inl ⟨by rfl,?_⟩) (by assumption) ?_
  rotate_left
  ·intro w9 hSw
   (try dsimp only at hSw)
   go_simp<;>with_reducible rfl
  (try simp only[Act.put])
  refine wpAnyH_take (i:=11) (v:= ?_) rfl (by kernel_rfl) (by kernel_rfl) (by kernel_rfl) (fun _ _ _ h=>h) (Or.inl ⟨by rfl,?_⟩) (by assumption) ?_
  rotate_left
  ·intro w9 hSw
   (try dsimp only at hSw)
   go_simp<;>with_reducible rfl
  (try simp only[Act.put])
  refine wpAnyH_take (i:=12) (v:= ?_) rfl (by kernel_rfl) (by kernel_rfl) (by kernel_rfl) (fun _ _ _ h=>h) (Or.inl ⟨by rfl,?_⟩) (by assumption) ?_
  rotate_left
  ·intro w9 hSw
   (try dsimp only at hSw)
   go_simp<;>with_reducible rfl
  (try simp only[Act.put])
  refine wpAnyH_take (i:=13) (v:= ?_) rfl (by kernel_rfl) (by kernel_rfl) (by kernel_rfl) (fun _ _ _ h=>h) (Or.inl ⟨by rfl,?_⟩) (by assumption) ?_
  rotate_left
  ·intro w9 hSw
   (try dsimp only at hSw)
   go_simp<;>with_reducible rfl
  (try simp only[Act.put])
  refine wpAnyH_take (i:=14) (v:= ?_) rfl (by kernel_rfl) (by kernel_rfl) (by kernel_rfl) (fun _ _ _ h=>h) (Or.inl ⟨by rfl,?_⟩) (by assumption) ?_
  rotate_left
  ·intro w9 hSw
   (try dsimp only at hSw)
   go_simp<;>with_reducible rfl
  (try simp only[Act.put])
  refine wpAnyH_take (i:=15) (v:= ?_) rfl (by kernel_rfl) (by kernel_rfl) (by kernel_rfl) (fun _ _ _ h=>h) (Or.inl ⟨by rfl,?_⟩) (by assumption) ?_
  rotate_left
  ·intro w9 hSw
   (try dsimp only at hSw)
   go_simp<;>with_reducible rfl
  (try simp only[Act.put])
  refine wpAnyH_take (i:=16) (v:= ?_) rfl (by kernel_rfl) (by kernel_rfl) (by kernel_rfl) (fun _ _ _ h=>h) (Or.inl ⟨by rfl,?_⟩) (by assumption) ?_
  rotate_left
  ·intro w9 hSw
   (try dsimp only at hSw)
   go_simp<;>with_reducible rfl
  (try simp only[Act.put])
  refine wpAnyH_take (i:=17) (v:= ?_) rfl (by kernel_rfl) (by kernel_rfl) (by kernel_rfl) (fun _ _ _ h=>h) (Or.inl ⟨by rfl,?_⟩) (by assumption) ?_
  rotate_left
  ·intro w9 hSw
   (try dsimp only at hSw)
   go_simp<;>with_reducible rfl
  (try simp only[Act.put])
  refine wpAnyH_take (i:=18) (v:= ?_) rfl (by kernel_rfl) (by kernel_rfl) (by kernel_rfl) (fun _ _ _ h=>h) (Or.inl ⟨by rfl,?_⟩) (by assumption) ?_
  rotate_left
  ·intro w9 hSw
   (try dsimp only at hSw)
   go_simp<;>with_reducible rfl
  (try simp only[Act.put])
  refine wpAnyH_take (i:=19) (v:= ?_) rfl (by kernel_rfl) (by kernel_rfl) (by kernel_rfl) (fun _ _ _ h=>h) (Or.inl ⟨by rfl,?_⟩) (by assumption) ?_
  rotate_left
  ·intro w9 hSw
   (try dsimp only at hSw)
   go_simp<;>with_reducible rfl
  (try simp only[Act.put])
  refine wpAnyH_take (i:=20) (v:= ?_) rfl (by kernel_rfl) (by kernel_rfl) (by kernel_rfl) (fun _ _ _ h=>h) (Or.inl ⟨by rfl,?_⟩) (by assumption) ?_
  rotate_left
  ·intro w9 hSw
   (try dsimp only at hSw)
   go_simp<;>with_reducible rfl
  (try simp only[Act.put])
  refine wpAnyH_ready (rs:= [5]) (by kernel_rfl) (by simp) ?_
  refine AllReadyH.cons rfl (fun K9 hK9=> ?_) AllReadyH.nil
  go_simp
  refine hK9.out _ _ S0 (fun hHeld=> ?_)
  clear hK9 K9
  (try simp only[Act.put,List.setIfInBounds_toArray,List.set_cons_zero,List.set_cons_succ])
  refine wpAnyH_ready (rs:= [21]) (by kernel_rfl) (by simp) ?_
  refine AllReadyH.cons rfl (fun K9 hK9=> ?_) AllReadyH.nil
  refine nG rfl (.tmp 22) (.tmp 37) rfl (g+1) x.vb s.d rfl ob ((Below.refl _ _).drew) A' (K-k) c' g rfl (s.r.take n) xY (by omega) hg1 ?_
  intro v' w3 ho3 hx3;obtain⟨A3,c3,hv3,-,-,-⟩:=ho3.form;subst hv3;have qx:=qk.Dh hx3 ho3;have hL3:=hx3.below ob (Nat.le_succ g) (Nat.le_of_lt Q1.lt);obtain⟨a0,a1,-,-,-,a5,-,-,-,b1,-,-,-,b5,-⟩:=Blk.c8 qx.blk;have S5:=And.intro a0 a1;clear hx3 ho3;refine hK9.out _ _ S5 (fun hHeld=> ?_)
  clear hK9 K9
  (try simp only[Act.put,List.setIfInBounds_toArray])
  refine wpAnyH_take (i:=22) (v:= ?_) rfl (by kernel_rfl) (by kernel_rfl) (by kernel_rfl) (fun _ _ _ h=>h) (Or.inl ⟨by rfl,?_⟩) (by assumption) ?_
  rotate_left
  ·intro w9 hSw
   (try dsimp only at hSw)
   go_simp<;>with_reducible rfl
  (try simp only[Act.put])
  refine wpAnyH_take (i:=23) (v:= ?_) rfl (by kernel_rfl) (by kernel_rfl) (by kernel_rfl) (fun _ _ _ h=>h) (Or.inl ⟨by rfl,?_⟩) (by assumption) ?_
  rotate_left
  ·intro w9 hSw
   (try dsimp only at hSw)
   go_simp<;>with_reducible rfl
  (try simp only[Act.put])
  refine wpAnyH_take (i:=24) (v:= ?_) rfl (by kernel_rfl) (by kernel_rfl) (by kernel_rfl) (fun _ _ _ h=>h) (Or.inl ⟨by rfl,?_⟩) (by assumption) ?_
  rotate_left
  ·intro w9 hSw
   (try dsimp only at hSw)
   go_simp<;>with_reducible rfl
  (try simp only[Act.put])
  refine wpAnyH_ready (rs:= [25]) (by kernel_rfl) (by simp) ?_
  refine AllReadyH.cons rfl (fun K9 hK9=> ?_) AllReadyH.nil
  go_simp
  refine hK9.out _ _ (hK6 _ _ S5) (fun hHeld=> ?_)
  clear hK9 K9
  (try simp only[Act.put,List.setIfInBounds_toArray,List.set_cons_zero,List.set_cons_succ])
  refine wpAnyH_done (by kernel_rfl) ?_ _
  refine NoPanic.normal ?_;have hm:min n s.r.length=n:=by have:=HK.out;omega
  have hlk:(s.r.take n).length=n:=by rw[List.length_take,hm]
  have q3:=(qx.ay 5 (.slice A3 (s.d++s.r.take n).length c3)).ay 1 (.int .i64 (K:Int));have hb3:Below g w ((w3.setCell ⟨g,5,none⟩ (.slice A3 (s.d++s.r.take n).length c3)).setCell ⟨g,1,none⟩ (.int .i64 (K:Int))):=((hb1.trans hL3).setCell (Nat.le_refl _) _).setCell (Nat.le_refl _) _;have qF:RM ((w3.setCell ⟨g,5,none⟩ (.slice A3 (s.d++s.r.take n).length c3)).setCell ⟨g,1,none⟩ (.int .i64 (K:Int))) g P hd { x with vb:=.slice A3 (s.d++s.r.take n).length c3 } K { s with r:=s.r.drop n,d:=s.d++s.r.take n } :=by
   refine RM.of q3 (by simp[jH]) q.cap ?_ ?_ q.nf ?_ ?_ q.st0
   ·have:=HK.out;simp only[List.length_drop];omega
   ·simp only[];rw[HK.out,<- List.drop_drop,q.rest]
   ·simp only[List.length_append,hlk];have:=HK.out;omega
   ·have:=q.nq;simp only[];omega
  have HN:=Lib.hid (show s.d.length+n=(s.d++s.r.take n).length by rw[List.length_append,hlk])
  rw[show(s.d++s.r.take n).length=s.d.length+min n s.r.length by simp]at q3 hb3 qF
  clear hlk hm q3;go_wp2
  go_end0
  exact bM HE.out rfl hb3 ⟨_,K,qF⟩
theorem aN {α:Type} {w:World} {g:Nat} {P:Bs} {hd:Bool} {x:R3 α} {val:α-> Value} {next:α-> Bs-> RSt} {e:Ending} {w':World} (h:kK w g P hd x val next e w'):
 (Hid (x= .short)/\ e= .panicked (pK 12)/\ Below g w w')\/ (Hid (x= .bad)/\ e= .panicked (pK 8)/\ Below g w w')\/ ∃a r,Hid (x= .ok a r)/\ e= .returned (val a)/\ RdT w' g P hd (next a r)/\ Below g w w':=by
 obtain⟨hb,h⟩:=h;cases x with
 |short=>exact .inl ⟨rfl,h,hb⟩
 |bad=>exact .inr (.inl ⟨rfl,h,hb⟩)
 |ok a r=>exact .inr (.inr ⟨a,r,rfl,h.1,h.2,hb⟩)
theorem ig (T:Bs) {w:World} {g:Nat} {P:Bs} {hd:Bool} {s:RSt} (q:RdT w g P hd s) (hP:P.length<= 1000000) (hT:T.length<= 1000):
 Calls Tryz.prog 102 #[.pointer (some ⟨g,0,none⟩),sv T] w (kK w g P hd (aK T s.r) (fun _=>.tuple #[]) (fun _ r=> { s with r:=r })):=
 (Gv ⟨T.toArray⟩ q hP (by show T.toArray.size<= 1000;simpa using hT)).mono fun _ _ h=>h.1
theorem Ji (T:Bs) {w:World} {g:Nat} {P:Bs} {hd:Bool} {s:RSt} (q:RdT w g P hd s) (hP:P.length<= 1000000) (hT:T.length<= 1000):
 Calls Tryz.prog 102 #[.pointer (some ⟨g,0,none⟩),sv T] w fun e w'=>kK w g P hd (aK T s.r) (fun _=>.tuple #[]) (fun _ r=> { s with r:=r }) e w'/\ FrA g w w':=
 Gv ⟨T.toArray⟩ q hP (by show T.toArray.size<= 1000;simpa using hT)
theorem RdT.ah {w w':World} {g:Nat} {P:Bs} {hd:Bool} {s:RSt} (q:RdT w g P hd s) (hb:Below w.heap.size w w'):RdT w' g P hd s:=by
 obtain⟨x,k,q⟩:=q;exact⟨x,k,q.ah hb⟩
theorem RdT.drewN {w:World} {g:Nat} {P:Bs} {hd:Bool} {s:RSt} (q:RdT w g P hd s) (n:Nat):RdT (w.drewN n) g P hd s:=by
 obtain⟨x,k,q⟩:=q;exact⟨x,k,q.drewN n⟩
theorem RdT.lt {w:World} {g:Nat} {P:Bs} {hd:Bool} {s:RSt} (q:RdT w g P hd s):g<w.heap.size:=by
 obtain⟨x,k,q⟩:=q;exact q.lt
theorem RdT.fin {w:World} {g:Nat} {P:Bs} {hd:Bool} {s:RSt} (q:RdT w g P hd s):RdT (w.setCell ⟨g,7,none⟩ (.bool true)) g P hd { s with fin:=true } :=by
 obtain⟨x,k,q⟩:=q;exact⟨x,k,RM.of (q.rk.ay 7 (.bool true)) (by simp[jH]) q.cap q.at_ q.rest q.nf q.nd q.nq q.st0⟩
theorem RdT.c7 {w:World} {g:Nat} {P:Bs} {hd:Bool} {s:RSt} (q:RdT w g P hd s):w.cell? ⟨g,7,none⟩=some (.bool s.fin)/\ w.frozen? ⟨g,7,none⟩=false:=by
 obtain⟨x,k,q⟩:=q;obtain⟨-,-,-,-,-,-,-,j7,-,-,-,-,-,-,-,i7⟩:=q.c8;exact⟨j7,i7⟩
theorem Gw (c d:UInt8) (h:c≠d):((c.toNat:Int)==(d.toNat:Int))=false:=by
 rw[Bool.eq_false_iff];intro h0;exact h (UInt8.toNat_inj.1 (by have:=beq_iff_eq.1 h0;omega))
theorem YB (ch:Bool) (r:Bs):iR ch (13::r)=(aK crlf (13::r)).bind fun _ t=>.ok false t:=by rw[iR,if_pos rfl]
theorem YC (ch:Bool) (c:UInt8) (r:Bs) (h:c≠13):iR ch (c::r)=(aK (coN++csB) (c::r)).bind fun _ t=>I7 ch (fun b t=>(aK crlf t).bind fun _ t=>.ok b t) t:=by rw[iR,if_neg h]
theorem Gx (ch:Bool) {w:World} {g:Nat} {P:Bs} {hd:Bool} {s:RSt} (q:RdT w g P hd s) (hP:P.length<= 1000000) (hfin:s.fin=false):
 Calls Tryz.prog 103 #[.pointer (some ⟨g,0,none⟩),.bool ch] w (kK w g P hd (iR ch s.r) (fun _=>.tuple #[]) (fun b r=> { s with r:=r,fin:=b })):=by
 have HFin:=Lib.hid hfin;clear hfin;have hT:=fun(T:Bs) (r:Bs) (w:World) (q:RdT w g P hd { s with r:=r }) (hT:T.length<= 1000)=>ig T q hP hT
 obtain⟨x,k,q⟩:=q;have hnx:=oU q hP;rcases hr:s.r with _| ⟨c,r⟩
 ·rw[hr]at hnx
  go_enter Tryz.func103,Tryz.ntmps103
  go_wp2_with fail
  refine hnx.mono ?_;rintro e w1 ⟨rfl,m,rfl⟩;exact⟨rfl,aA rfl (below_drewN' (Below.refl _ _) _)⟩
 ·rw[hr]at hnx
  have q0:RdT w g P hd { s with r:=c::r } :=by rw[<- hr];exact⟨x,k,q⟩
  have hb0:=fun m=>below_drewN' (Below.refl g w) m
  clear hr q;by_cases hc:c=13
  ·subst hc
   have HX:=Lib.hid (YB ch r);go_enter Tryz.func103,Tryz.ntmps103
   go_wp2_with fail
   refine hnx.mono ?_;rintro e w1 ⟨rfl,m,rfl⟩;go_wp2_with fail
   refine(hT crlf (13::r) _ (q0.drewN m) (by decide)).mono ?_
   intro e w2 h2;rcases aN h2 with⟨hx,rfl,L⟩| ⟨hx,rfl,L⟩| ⟨_,r2,hx,rfl,q2,L⟩
   ·exact⟨rfl,aA (by rw[HX.out,hx.out];rfl) ((hb0 m).trans L)⟩
   ·exact⟨rfl,aC (by rw[HX.out,hx.out];rfl) ((hb0 m).trans L)⟩
   ·go_wp2
    go_end0
    exact bM (by rw[HX.out,hx.out];rfl) rfl ((hb0 m).trans L) (by rw[show({ s with r:=r2,fin:=false } :RSt)= { s with r:=r2 } by rw[<- HFin.out]];exact q2)
  ·have HX:=Lib.hid (YC ch c r hc)
   have hcb:=Gw c 13 hc;rw[show((13:UInt8).toNat:Int)=13 from rfl]at hcb
   have hcb2: ¬(c.toNat:Int)=13:=by simpa using hcb
   clear hc;go_enter Tryz.func103,Tryz.ntmps103
   go_wp2_with fail
   refine hnx.mono ?_;rintro e w1 ⟨rfl,m,rfl⟩;go_wp2_with fail
   refine(hT (coN++csB) (c::r) _ (q0.drewN m) (by decide)).mono ?_
   intro e w2 h2;rcases aN h2 with⟨hx,rfl,L⟩| ⟨hx,rfl,L⟩| ⟨_,r2,hx,rfl,q2,L⟩
   ·exact⟨rfl,aA (by rw[HX.out,hx.out];rfl) ((hb0 m).trans L)⟩
   ·exact⟨rfl,aC (by rw[HX.out,hx.out];rfl) ((hb0 m).trans L)⟩
   ·have HY:=Lib.hid (show iR ch (c::r)=I7 ch (fun b t=>(aK crlf t).bind fun _ t=>.ok b t) r2 by rw[HX.out,hx.out];rfl)
    have hb2:=(hb0 m).trans L;clear HX hx hb0 h2 hnx L;obtain⟨x2,k2,q3⟩:=q2;have hnx:=oU q3 hP;rcases r2 with _| ⟨d,r2⟩
    ·go_wp2_with fail
     refine hnx.mono ?_;rintro e w3 ⟨rfl,m3,rfl⟩;exact⟨rfl,aA HY.out (below_drewN' hb2 _)⟩
    ·have q4:RdT w2 g P hd { s with r:=d::r2 } :=⟨x2,k2,q3⟩
     have hb3:=fun m=>below_drewN' hb2 m
     clear q3 q0;by_cases hd':d=107/\ ch=false
     ·have HZ:=Lib.hid (show iR ch (c::r)=(aK Uo (d::r2)).bind fun _ t=>(aK crlf t).bind fun _ t=>.ok false t by rw[HY.out,I7,if_pos hd'])
      obtain⟨rfl,rfl⟩:=hd';go_wp2_with fail
      refine hnx.mono ?_;rintro e w3 ⟨rfl,m3,rfl⟩;go_wp2_with fail
      refine(hT Uo (107::r2) _ (q4.drewN m3) (by decide)).mono ?_
      intro e w4 h4;rcases aN h4 with⟨hx,rfl,L⟩| ⟨hx,rfl,L⟩| ⟨_,r5,hx,rfl,q5,L⟩
      ·exact⟨rfl,aA (by rw[HZ.out,hx.out];rfl) ((hb3 m3).trans L)⟩
      ·exact⟨rfl,aC (by rw[HZ.out,hx.out];rfl) ((hb3 m3).trans L)⟩
      ·have HW:=Lib.hid (show iR false (c::r)=(aK crlf r5).bind fun _ t=>.ok false t by rw[HZ.out,hx.out];rfl)
       have hb5:=(hb3 m3).trans L;clear HZ hx;go_wp2_with fail
       refine(hT crlf r5 _ q5 (by decide)).mono ?_
       intro e w6 h6;rcases aN h6 with⟨hx,rfl,L⟩| ⟨hx,rfl,L⟩| ⟨_,r7,hx,rfl,q7,L⟩
       ·exact⟨rfl,aA (by rw[HW.out,hx.out];rfl) (hb5.trans L)⟩
       ·exact⟨rfl,aC (by rw[HW.out,hx.out];rfl) (hb5.trans L)⟩
       ·go_wp2
        go_end0
        exact bM (by rw[HW.out,hx.out];rfl) rfl (hb5.trans L) (by rw[show({ s with r:=r7,fin:=false } :RSt)= { s with r:=r7 } by rw[<- HFin.out]];exact q7)
     ·have HZ:=Lib.hid (show iR ch (c::r)=(aK Ur (d::r2)).bind fun _ t=>(aK crlf t).bind fun _ t=>.ok true t by rw[HY.out,I7,if_neg hd'])
      have hway:((d.toNat:Int)==107)=false\/ (((d.toNat:Int)==107)=true/\ ch=true):=by
       by_cases h:d=107
       ·subst h
        exact .inr ⟨rfl,by cases ch<;>simp_all⟩
       ·exact .inl (Gw d 107 h)
      clear hd';rcases hway with hw1| ⟨hw1,rfl⟩;all_goals
       go_wp2_with fail
       refine hnx.mono ?_;rintro e w3 ⟨rfl,m3,rfl⟩;go_wp2_with fail
       refine(hT Ur (d::r2) _ (q4.drewN m3) (by decide)).mono ?_
       intro e w4 h4;rcases aN h4 with⟨hx,rfl,L⟩| ⟨hx,rfl,L⟩| ⟨_,r5,hx,rfl,q5,L⟩
       ·exact⟨rfl,aA (by rw[HZ.out,hx.out];rfl) ((hb3 m3).trans L)⟩
       ·exact⟨rfl,aC (by rw[HZ.out,hx.out];rfl) ((hb3 m3).trans L)⟩
       ·have HW:=Lib.hid (HZ.out.trans (show _=(aK crlf r5).bind fun _ t=>.ok true t by rw[hx.out];rfl))
        have hb5:=((hb3 m3).trans L).setCell (p:=⟨g,7,none⟩) (Nat.le_refl _) (.bool true);have q6:=q5.fin;obtain⟨f7,i7⟩:=q5.c7;clear HZ hx;go_wp2_with fail
        refine(ig crlf q6 hP (by decide)).mono ?_
        intro e w6 h6;rcases aN h6 with⟨hx,rfl,L⟩| ⟨hx,rfl,L⟩| ⟨_,r7,hx,rfl,q7,L⟩
        ·exact⟨rfl,aA (by rw[HW.out,hx.out];rfl) (hb5.trans L)⟩
        ·exact⟨rfl,aC (by rw[HW.out,hx.out];rfl) (hb5.trans L)⟩
        ·go_wp2
         go_end0
         exact bM (by rw[HW.out,hx.out];rfl) rfl (hb5.trans L) q7
theorem Qk (p:UInt8-> Bool) (r:Bs):r=r.takeWhile p++r.dropWhile p:=(List.takeWhile_append_dropWhile).symm
theorem qJ (l:Bs):Lib.trimLeftS l [9,32]=trimF l:=by
 have e:(fun b:UInt8=>([9,32]:Bs).contains b)=isB:=by
  funext b
  cases h1:(b==9)<;>cases h2:(b==32)<;>simp[isB,List.contains,List.elem,h1,h2]
 unfold Lib.trimLeftS trimF;rw[e]
theorem Jj (p:UInt8-> Bool) (n:Nat) (r:Bs) (h:r.length<= n):dI p n r=r.takeWhile p:=by rw[dI,List.take_of_length_le h]
theorem Ej (p:UInt8-> Bool) (r:Bs):r.drop (r.takeWhile p).length=r.dropWhile p:=by
 have h:=congrArg (List.drop (r.takeWhile p).length) (Qk p r);exact h.trans List.drop_left
theorem U5 (r:Bs) (h:trimF (r.takeWhile vlB)≠r.takeWhile vlB):lI r= .bad:=by rw[lI,if_pos h]
theorem Ql (r:Bs) (h:trimF (r.takeWhile vlB)=r.takeWhile vlB) (h2:r.dropWhile vlB= []):lI r= .short:=by rw[lI,if_neg (by simpa using h),if_pos h2]
theorem U6 (r:Bs) (h:trimF (r.takeWhile vlB)=r.takeWhile vlB) (h2:r.dropWhile vlB≠[]) (h3:bf (r.takeWhile vlB)≠r.takeWhile vlB):lI r= .bad:=by rw[lI,if_neg (by simpa using h),if_neg h2,if_pos h3]
theorem aap (r:Bs) (h:trimF (r.takeWhile vlB)=r.takeWhile vlB) (h2:r.dropWhile vlB≠[]) (h3:bf (r.takeWhile vlB)=r.takeWhile vlB):lI r=(aK crlf (r.dropWhile vlB)).bind fun _ t=>.ok (r.takeWhile vlB) t:=by rw[lI,if_neg (by simpa using h),if_neg h2,if_neg (by simpa using h3)]
theorem Jk {w:World} {g:Nat} {P:Bs} {hd:Bool} {s:RSt} (q:RdT w g P hd s) (hP:P.length<= 1000000):
 Calls Tryz.prog 162 #[.pointer (some ⟨g,0,none⟩)] w fun e w'=>kK w g P hd (lI s.r) (fun a=>sv a) (fun _ r=> { s with r:=r }) e w'/\ FrA g w w':=by
 have hgl:=q.lt;have hg:g<= w.heap.size:=Nat.le_of_lt q.lt;have hwh:=Bg 205 vlB is_value P.length q hP hP;obtain⟨x,k,q⟩:=q;obtain⟨j0,j1,-⟩:=q.c8;have hsp:dI vlB P.length s.r=s.r.takeWhile vlB:=Jj vlB _ _ (by have:=q.at_;omega)
 rw[hsp]at hwh;have hdr:=Ej vlB s.r;have hal:(s.r.takeWhile vlB).length<= 1000000:=by
  have h1:=(List.takeWhile_sublist vlB (l:=s.r)).length_le;have:=q.at_;omega
 have hV1:=Lib.hid (U5 s.r);have hV2:=Lib.hid (Ql s.r);have hV3:=Lib.hid (U6 s.r);have hV4:=Lib.hid (aap s.r);generalize s.r.takeWhile vlB=a at*;generalize s.r.dropWhile vlB=b at*;have HD:=Lib.hid hdr;clear hsp hdr;have htl:=fun w=>Any.strings_TrimLeft_laid Tryz.lays161 (by kernel_rfl) ⟨a.toArray⟩ ⟨#[9,32]⟩ w (by decide) (ascii_of_all (by decide))
 simp only[qJ]at htl;go_enter Tryz.func162,Tryz.ntmps162
 go_wp2_with fail
 refine hwh.mono ?_;rintro e w1 ⟨rfl,q1,L1⟩;go_wp2_with fail
 refine(htl w1).mono ?_;rintro e w2 ⟨rfl,L2⟩;have hb2:FrA g w w2:=L1.ah L2 hgl;have q2:=q1.ah L2;have Mc:=fun w=>qh ⟨a.toArray⟩ w (by show a.toArray.size<= _;unfold maxLen;simp;omega)
 dsimp only at Mc;clear hwh htl L1 L2 q1 j0 j1;by_cases h1:trimF a=a
 ·rw[h1]
  have hV2:=Lib.hid (hV2.out h1);have hV3:=Lib.hid (hV3.out h1);have hV4:=Lib.hid (hV4.out h1);clear h1 hV1;obtain⟨x2,k2,q3⟩:=q2;have hat:=q3.at_;simp only[HD.out]at hat;obtain⟨j0,j1,-⟩:=q3.c8;have hbm:=fun m=>hb2.drewN m
  rcases b with _| ⟨c,b⟩
  ·have hV:=Lib.hid (hV2.out rfl)
   obtain rfl:k2=P.length:=by simpa using hat
   clear hat;go_wp2_with fail
   go_quiet (fail)
   go_wp2_with fail
   refine(cO 12 _).mono ?_;rintro e w3 ⟨rfl,rfl⟩;exact⟨rfl,aA hV.out (aY hg (hbm _)),hbm _⟩
  ·have hV3:=Lib.hid (hV3.out (by simp))
   have hV4:=Lib.hid (hV4.out (by simp))
   have hne: ¬k2=P.length:=by simp at hat;omega
   have q4: ∀m,RdT (w2.drewN m) g P hd { s with r:=c::b } :=fun m=>by rw[<- HD.out];exact⟨x2,k2,q3.drewN m⟩
   clear hat hV2;go_wp2_with fail
   go_quiet (fail)
   have hb3:=hbm nq;have q5:=q4 nq;obtain⟨W,hW⟩: ∃W,W=w2.drewN nq:=⟨_,rfl⟩;rw[<- hW]at hb3 q5⊢;clear hW hbm q4 q3 j0 j1;go_wp2_with fail
   refine(Mc W).mono ?_;rintro e w3 ⟨rfl,L3⟩;have hb4:FrA g w w3:=hb3.ah L3 hgl;have q6:=q5.ah L3;by_cases h2:bf a=a
   ·rw[h2]
    have hV:=Lib.hid (hV4.out h2);clear h2 hV3 hV4 Mc;go_wp2_with fail
    refine(Ji crlf q6 hP (by decide)).mono ?_
    rintro e w4 ⟨h4,F4⟩;have hb5:FrA g w w4:=hb4.trans F4;rcases aN h4 with⟨hx,rfl,L⟩| ⟨hx,rfl,L⟩| ⟨_,r7,hx,rfl,q7,L⟩
    ·exact⟨rfl,aA (by rw[hV.out,hx.out];rfl) (aY hg hb5),hb5⟩
    ·exact⟨rfl,aC (by rw[hV.out,hx.out];rfl) (aY hg hb5),hb5⟩
    ·go_wp2
     go_ret
     exact⟨bM (by rw[hV.out,hx.out];rfl) rfl (aY hg hb5) q7,hb5⟩
   ·have hV:=Lib.hid (hV3.out h2)
    generalize bf a=a2 at*;have h3:(a2==a)=false:=by simpa using h2
    have h4: ¬(a2.toArray=a.toArray):=by simpa using h2
    go_wp2_with fail
    refine(cO 8 _).mono ?_;rintro e w3 ⟨rfl,rfl⟩;exact⟨rfl,aC hV.out (aY hg hb4),hb4⟩
 ·have hV:=Lib.hid (hV1.out h1)
  generalize trimF a=a2 at*;have h3:(a2==a)=false:=by simpa using h1
  have h4: ¬(a2.toArray=a.toArray):=by simpa using h1
  go_wp2_with fail
  refine(cO 8 _).mono ?_;rintro e w3 ⟨rfl,rfl⟩;exact⟨rfl,aC hV.out (aY hg hb2),hb2⟩
theorem U7 (ours:List Bs) (nf:Nat) (r:Bs) (h:r.dropWhile tkB= []):jQ ours nf r=if Un ours nf (r.takeWhile tkB)then .bad else .short:=by rw[jQ,if_pos h]
theorem U8 (ours:List Bs) (nf:Nat) (r:Bs) (h:r.dropWhile tkB≠[]) (h2:ours.contains (r.takeWhile tkB)=true):jQ ours nf r= .ok (r.takeWhile tkB) r:=by rw[jQ,if_neg h,if_pos h2]
theorem U9 (ours:List Bs) (nf:Nat) (r:Bs) (h:r.dropWhile tkB≠[]) (h2:ours.contains (r.takeWhile tkB)=false) (h3:(decide (r.takeWhile tkB= [])||lH (r.takeWhile tkB)||decide (24<= nf))=true):jQ ours nf r= .bad:=by rw[jQ,if_neg h,if_neg (by simpa using h2),if_pos h3]
theorem YD (ours:List Bs) (nf:Nat) (r:Bs) (h:r.dropWhile tkB≠[]) (h2:ours.contains (r.takeWhile tkB)=false) (h3:(decide (r.takeWhile tkB= [])||lH (r.takeWhile tkB)||decide (24<= nf))=false):jQ ours nf r=(aK csB (r.dropWhile tkB)).bind fun _ t=>.ok (r.takeWhile tkB) t:=by rw[jQ,if_neg h,if_neg (by simpa using h2),if_neg (by simpa using h3)]
def yI (ours:List Bs) (nf:Nat) (s:Bs) (j:Nat):Bool:=decide (24<= nf)&& (ours.take j).all fun o=> !s.isPrefixOf o
theorem YE (A:Option Addr) (n c:Nat) (ours:List Bs) {w:World} {g:Nat} {P:Bs} {hd:Bool} {s:RSt} (q:RdT w g P hd s) (hP:P.length<= 1000000) (hA:Rd w w.heap.size 1 A n (ours.map tv)) (hne: ∀b o,A=some ⟨b,o,none⟩-> b≠g) (hn:n<= 2):
 Calls Tryz.prog 160 #[.pointer (some ⟨g,0,none⟩),.slice A n c] w fun e w'=>kK w g P hd (jQ ours s.f.length s.r) (fun a=>sv a) (fun _ r=> { s with r:=r }) e w'/\ FrA g w w':=by
 have hgl:=q.lt;have hg:g<= w.heap.size:=Nat.le_of_lt q.lt;have hln:ours.length=n:=by simpa using hA.1
 have hwh:=Bg 202 tkB U2 P.length q hP hP;obtain⟨x,k,q⟩:=q;obtain⟨j0,j1,-,-,j4,-⟩:=q.c8;have hsp:dI tkB P.length s.r=s.r.takeWhile tkB:=Jj tkB _ _ (by have:=q.at_;omega)
 rw[hsp]at hwh;have hdr:=Ej tkB s.r;have hal:(s.r.takeWhile tkB).length<= 1000000:=by
  have h1:=(List.takeWhile_sublist tkB (l:=s.r)).length_le;have:=q.at_;omega
 have hV1:=Lib.hid (U7 ours s.f.length s.r);have hV2:=Lib.hid (U8 ours s.f.length s.r);have hV3:=Lib.hid (U9 ours s.f.length s.r);have hV4:=Lib.hid (YD ours s.f.length s.r);generalize s.r.takeWhile tkB=a at*;generalize s.r.dropWhile tkB=b at*;have HD:=Lib.hid hdr;clear hsp hdr;obtain⟨Af,cf,hvf,-,-,-⟩:=q.of_.form;rw[hvf]at j4;clear hvf;obtain⟨F0,hF0⟩: ∃b,decide (24<=(s.f.length:Int))=b:=⟨_,rfl⟩;have HF0:=Lib.hid (show decide (24<= s.f.length)=F0 by rw[<- hF0];exact decide_eq_decide.2 (by omega))
 go_enter Tryz.func160,Tryz.ntmps160
 go_wp2_with fail
 refine hwh.mono ?_;rintro e w1 ⟨rfl,q1,F1⟩;obtain⟨x1,k1,q1⟩:=q1;obtain⟨i0,i1,-,-,i4,-⟩:=q1.c8;obtain⟨Ag,cg,hvg,-,-,-⟩:=q1.of_.form;rw[hvg]at i4;clear hvg hwh j0 j1 j4;have hA1:Rd w1 w1.heap.size 1 A n (ours.map tv):=by
  refine⟨hA.1,fun h0=> ?_⟩
  obtain⟨bb,o,e,hb,hc⟩:=hA.2 h0;exact⟨bb,o,e,Nat.lt_of_lt_of_le hb F1.fr.size,fun j u hu=>(F1.fr.cell (p:=⟨bb,o+j,none⟩) hb (hne _ _ e)).trans (hc j u hu)⟩
 have hk1:=q1.at_;simp only[HD.out]at hk1;rcases b with _| ⟨d,b⟩
 ·have hV:=Lib.hid (hV1.out rfl)
  obtain rfl:k1=P.length:=by simpa using hk1
  have HD2:=Lib.hid (fun j=>show yI ours s.f.length a j=(F0&& (ours.take j).all fun o=> !a.isPrefixOf o) by rw[<- HF0.out];rfl)
  clear hk1 hV1 hV2 hV3 hV4 q1;go_wp2_with fail
  go_quiet (fail)
  have F2:=F1.drewN nq;have hA2:=hA1.drewN nq;obtain⟨W,hW⟩: ∃W,W=w1.drewN nq:=⟨_,rfl⟩;rw[<- hW]at F2 hA2⊢;clear hW F1 hA1 i0 i1 i4;go_wp2_with fail
  go_loop [42,7] (fun i f=> ∃j:Nat,j<= n/\ i= .int .i64 j/\ f= .bool (yI ours s.f.length a j)) (fun i _=>n- (intOf i).toNat)
  case atStart=>exact⟨0,Nat.zero_le _,rfl,by rw[HD2.out];simp⟩
  case round=>
   obtain⟨j,hj,rfl,rfl⟩:=hrel;by_cases hlt:j<n
   ·obtain⟨bb,o,rfl,hbb,hcc⟩:=hA2.2 (by omega)
    obtain⟨ob,hob⟩: ∃ob,ours[j]? = some ob:=⟨_,List.getElem?_eq_getElem (by omega)⟩
    have hcell:=hcc j (tv ob) (by rw[List.getElem?_map,hob];rfl)
    have HN:=Lib.hid (show yI ours s.f.length a (j+1)=(yI ours s.f.length a j&& !a.isPrefixOf ob) by rw[HD2.out,HD2.out,List.take_add_one,hob];simp[Bool.and_assoc])
    have hpf:=fun w=>Tryz.strings_HasPrefix ⟨ob.toArray⟩ ⟨a.toArray⟩ w
    simp only[Lib.hasPrefix]at hpf;generalize a.isPrefixOf ob=pb at*;generalize yI ours s.f.length a j=fj at*;clear hcc hob;cases fj
    ·go_wp2
     go_round
     case rel=>exact⟨j+1,by omega,by go_num,by rw[HN.out];rfl⟩
     case measure=>simp[intOf];omega
    ·go_wp2_with fail
     refine(hpf _).mono ?_;rintro e w3 ⟨rfl,rfl⟩;go_wp2
     go_round
     case rel=>exact⟨j+1,by omega,by go_num,by rw[HN.out];rfl⟩
     case measure=>simp[intOf];omega
   ·obtain rfl:j=n:=by omega
    have HE:=Lib.hid (show Un ours s.f.length a=yI ours s.f.length a j by rw[yI,List.take_of_length_le (by omega)];rfl)
    generalize yI ours s.f.length a j=fj at*;cases fj
    ·go_wp2_with fail
     refine(cO 12 _).mono ?_;rintro e w3 ⟨rfl,rfl⟩;exact⟨rfl,aA (by rw[hV.out,HE.out];rfl) (aY hg F2),F2⟩
    ·go_wp2_with fail
     refine(cO 8 _).mono ?_;rintro e w3 ⟨rfl,rfl⟩;exact⟨rfl,aC (by rw[hV.out,HE.out];rfl) (aY hg F2),F2⟩
 ·have hV2:=Lib.hid (hV2.out (by simp))
  have hV3:=Lib.hid (hV3.out (by simp))
  have hV4:=Lib.hid (hV4.out (by simp))
  have hne1: ¬k1=P.length:=by simp at hk1;omega
  have hkP:k<= P.length:=by have:=q.at_;omega
  have hqa:=q.at_;have hqr:=q.rest;have hnd:=q.nd;have hnq:=q.nq;have hback:RK (w1.setCell ⟨g,1,none⟩ (.int .i64 (k:Int))) g ((jH P hd x1 k1 { s with r:=s.r.drop a.length }).setIfInBounds 1 (.int .i64 (k:Int))) P x1 s.f s.d s.q:=q1.rk.ay 1 (.int .i64 (k:Int))
  have q2:=fun m=>q1.drewN m
  have hbk: ∀m,RdT ((w1.drewN m).setCell ⟨g,1,none⟩ (.int .i64 (k:Int))) g P hd s:=fun m=>
   ⟨x1,k,RM.of ((q1.drewN m).rk.ay 1 (.int .i64 (k:Int))) (by simp[jH]) q1.cap hqa hqr q1.nf hnd hnq q1.st0⟩
  clear hk1 hV1 hback q hqa hqr hnd hnq;go_wp2_with fail
  go_quiet (fail)
  have F2:=F1.drewN nq;have hA2:=hA1.drewN nq;have q3:=q2 nq;have hb3:=hbk nq;obtain⟨W,hW⟩: ∃W,W=w1.drewN nq:=⟨_,rfl⟩;rw[<- hW]at F2 hA2 q3 hb3⊢;clear hW F1 hA1 i0 i1 i4 q1 q2 hbk;obtain⟨-,i1,-,-,-,-,-,-,-,p1,-⟩:=q3.c8;go_wp2_with fail
  go_loop [59] (fun i=> ∃j:Nat,j<= n/\ i= .int .i64 j/\ Hid (∀o∈ours.take j,o≠a)) (fun i=>n- (intOf i).toNat)
  case atStart=>exact⟨0,Nat.zero_le _,rfl,fun o ho=>by simp at ho⟩
  case round=>
   obtain⟨j,hj,rfl,hno⟩:=hrel;by_cases hlt:j<n
   ·obtain⟨bb,o,rfl,hbb,hcc⟩:=hA2.2 (by omega)
    obtain⟨ob,hob⟩: ∃ob,ours[j]? = some ob:=⟨_,List.getElem?_eq_getElem (by omega)⟩
    have hcell:=hcc j (tv ob) (by rw[List.getElem?_map,hob];rfl)
    have HOB:=Lib.hid hob;clear hcc hob;by_cases hoa:ob=a
    ·subst hoa
     have hV:=Lib.hid (hV2.out (by rw[List.contains_iff_mem];exact List.mem_of_getElem? HOB.out))
     clear hV2 hV3 hV4;go_wp2
     go_ret
     exact⟨bM hV.out rfl ((aY hg F2).setCell (Nat.le_refl _) _) hb3,F2.on1 _⟩
    ·have h3:(a==ob)=false:=by simpa using fun e=>hoa e.symm
     have h4: ¬(a.toArray=ob.toArray):=by simpa using fun e=>hoa e.symm
     have HN:=Lib.hid (show∀o∈ours.take (j+1),o≠a by
      intro o' ho';rw[List.take_add_one,HOB.out]at ho';simp only[List.mem_append,Option.toList_some,List.mem_singleton]at ho';rcases ho' with h|rfl
      ·exact hno.out o' h
      ·exact hoa)
     clear hoa;go_wp2
     go_round
     case rel=>exact⟨j+1,by omega,by go_num,HN⟩
     case measure=>simp[intOf];omega
   ·obtain rfl:j=n:=by omega
    have hnc:ours.contains a=false:=by
     rw[Bool.eq_false_iff];intro h;rw[List.contains_iff_mem]at h;exact hno.out a (by rw[List.take_of_length_le (by omega)];exact h) rfl
    have hV3:=Lib.hid (hV3.out hnc);have hV4:=Lib.hid (hV4.out hnc);have hown:=fun w=>oL a w hal
    clear hnc hno hV2 hlt;have q4:RdT W g P hd { s with r:=d::b } :=by rw[<- HD.out];exact⟨x1,k1,q3⟩
    clear hb3 q3 i1 p1;rcases a with _| ⟨a0,a⟩
    ·have hV:=Lib.hid (hV3.out (by simp))
     go_wp2_with fail
     refine(cO 8 _).mono ?_;rintro e w3 ⟨rfl,rfl⟩;exact⟨rfl,aC hV.out (aY hg F2),F2⟩
    ·generalize hA0:a0::a=a at*
     have h3:a.isEmpty=false:=by rw[<- hA0];rfl
     have h3':(a== [])=false:=by rw[<- hA0];rfl
     have h4: ¬(a.toArray= #[]):=by rw[<- hA0];simp
     have h5: ¬a= []:=by rw[<- hA0];simp
     have YF:=Lib.hid (fun h=>hV3.out (by rw[h];simp):lH a=true-> _)
     have Vd:=Lib.hid (fun h=>hV3.out (by rw[h];simp):decide (24<= s.f.length)=true-> _)
     have hV4:=Lib.hid (fun h1 h2=>hV4.out (by rw[h1,h2];simp[h5]):lH a=false-> decide (24<= s.f.length)=false-> _)
     rw[HF0.out]at Vd hV4;clear hA0 hV3;generalize lH a=oa at*;cases oa
     ·cases F0
      ·have hV:=Lib.hid (hV4.out rfl rfl)
       clear YF Vd hV4;go_wp2_with fail
       refine(hown W).mono ?_;rintro e w3 ⟨rfl,L3⟩;have hb4:FrA g w w3:=F2.ah L3 hgl;have q6:=q4.ah L3;go_wp2_with fail
       refine(Ji csB q6 hP (by decide)).mono ?_
       rintro e w4 ⟨h6,F4⟩;have hb5:FrA g w w4:=hb4.trans F4;rcases aN h6 with⟨hx,rfl,L⟩| ⟨hx,rfl,L⟩| ⟨_,r7,hx,rfl,q7,L⟩
       ·exact⟨rfl,aA (by rw[hV.out,hx.out];rfl) (aY hg hb5),hb5⟩
       ·exact⟨rfl,aC (by rw[hV.out,hx.out];rfl) (aY hg hb5),hb5⟩
       ·go_wp2
        go_ret
        exact⟨bM (by rw[hV.out,hx.out];rfl) rfl (aY hg hb5) q7,hb5⟩
      ·have hV:=Lib.hid (Vd.out rfl)
       clear YF Vd hV4;go_wp2_with fail
       refine(hown W).mono ?_;rintro e w3 ⟨rfl,L3⟩;have hb4:FrA g w w3:=F2.ah L3 hgl;go_wp2_with fail
       refine(cO 8 _).mono ?_;rintro e w4 ⟨rfl,rfl⟩;exact⟨rfl,aC hV.out (aY hg hb4),hb4⟩
     ·have hV:=Lib.hid (YF.out rfl)
      clear YF Vd hV4;go_wp2_with fail
      refine(hown W).mono ?_;rintro e w3 ⟨rfl,L3⟩;have hb4:FrA g w w3:=F2.ah L3 hgl;go_wp2_with fail
      refine(cO 8 _).mono ?_;rintro e w4 ⟨rfl,rfl⟩;exact⟨rfl,aC hV.out (aY hg hb4),hb4⟩
end Go.Proofs.YtdmondfpepbniaaGreatDoor
