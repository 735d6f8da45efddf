/- usherref13: words, digit. usherref10: Add onto fields that stand ahead of other cells. usherref13: a Head in memory; start. -/
import Derived.Test.YtlambdccmfnloaaGreatDoorIs10
import Derived.Test.YtlambdccmfnloaaGreatDoorHd
import Derived.Test.YtlambdccmfnloaaGreatDoorTRef5
import Derived.Test.YtlambdccmfnloaaGreatDoorFPl
import Derived.Deep.QuietTactic
import Derived.BigQuiet
import Derived.Deep.RegionHeld3
import Derived.Deep.DeepCutAuto
namespace Go.Proofs.YtlambdccmfnloaaGreatDoor
open Go.RowKit
set_option maxRecDepth 100000
set_option maxHeartbeats 4000000

theorem xh_words (s : ByteArray) (w : World) (hs : s.size ≤ 100000) :
    Calls Tryz.prog 253 #[.string s] w fun e w' => (∃ v, e = .returned v ∧ OS w' w.heap.size v (splitL 32 s.data.toList)) ∧ Below w.heap.size w w' := by
  obtain ⟨t, ht⟩ : ∃ t, t = s.data.toList := ⟨_, rfl⟩
  have htl : t.length = s.size := by rw [ht, len_data]
  obtain ⟨S, hSS⟩ : ∃ S : ByteArray, S = s ++ ⟨#[32]⟩ := ⟨_, rfl⟩
  have hSl : S.data.toList = t ++ [32] := by rw [hSS, app_data, ht]
  have hSz : S.size = t.length + 1 := by rw [← len_data, hSl, List.length_append]; rfl
  have HSl := Lib.hid hSl
  have hSe := hSS.symm
  have HT := Lib.hid ht
  have H0 := Lib.hid (show splitL 32 t = [] ++ tailC 32 t 0 by rw [tailC_zero]; rfl)
  rw [← ht]
  clear hSS hSl ht
  go_enter Tryz.func253, Tryz.ntmps253
  go_wp2
  go_loopw [3, 4, 5] (fun v fr i wi => ∃ (f j : Nat) (lj : List Bs), f ≤ j ∧ j ≤ t.length + 1 ∧ fr = .int .i64 f ∧ i = .int .i64 j ∧ OS wi w.heap.size v lj ∧ lj.length ≤ j ∧ (j ≤ t.length ∨ f = j) ∧ Hid (∀ b ∈ (t.drop f).take (j - f), b ≠ 32) ∧ Hid (splitL 32 t = lj ++ tailC 32 t f) ∧ Below w.heap.size w wi) (fun _ _ i _ => t.length + 1 - (intOf i).toNat)
  case atStart =>
    refine ⟨0, 0, [], Nat.le_refl _, Nat.zero_le _, rfl, rfl, OS.nil _ _, Nat.le_refl _, .inl (Nat.zero_le _), ?_, H0, Below.refl _ _⟩
    intro b hb; simp at hb
  case round =>
    obtain ⟨f, j, lj, hfj, hj, rfl, rfl, hoj, hlj, hfl, HN, HF, LJ⟩ := hrel
    have hSJ := LJ.size
    have hSb := PlainAid.get_bt S
    by_cases hjt : j < t.length + 1
    · obtain ⟨x, hx, hxt⟩ := drop_bt S j (by omega)
      have hx8 := u8lt x
      have hfl2 : f ≤ t.length := by omega
      by_cases h32 : x = 32
      · subst h32
        have hq2 : PlainAid.bt S j = 32 := hxt
        have hk32 : j = t.length ∨ t[j]? = some 32 := by
          rcases (by omega : j = t.length ∨ j < t.length) with h | h
          · exact .inl h
          · rw [HSl.out, List.drop_append_of_le_length (by omega), List.drop_eq_getElem_cons h] at hx
            exact .inr (by rw [List.getElem?_eq_getElem h]; exact congrArg some (List.cons.inj hx).1)
        obtain ⟨p, hp⟩ : ∃ p, p = (t.drop f).take (j - f) := ⟨_, rfl⟩
        have hpe : S.extract f j = ⟨p.toArray⟩ := by rw [pieceC 32 S t HSl.out f j (by omega), hp]
        have hT := tailC_step 32 t f j hfj (by omega) HN.out hk32
        rw [← hp] at hT
        have HF' := Lib.hid (show splitL 32 t = (lj ++ [p]) ++ tailC 32 t (j + 1) by rw [HF.out, hT, List.append_assoc]; rfl)
        have HN' : Hid (∀ b ∈ (t.drop (j + 1)).take (j + 1 - (j + 1)), b ≠ 32) := by intro b hb; simp at hb
        clear hx hxt hk32 hp hT HN HF
        go_wp2_with (at_builtin; refine wp_appS1 rfl _ _ rfl w.heap.size _ _ rfl hoj _ rfl ⟨p.toArray⟩ rfl (by omega) (by omega) ?_; intro v' w4 ho4 hx)
        go_roundw
        case rel => exact ⟨j + 1, j + 1, lj ++ [p], by omega, by omega, by go_num, by go_num, ho4, by simp; omega, .inr rfl, HN', HF', LJ.trans (hx.below hoj (Nat.le_refl _) (by omega))⟩
        case measure => simp [intOf]; omega
      · have hkl : j < t.length := by
          rcases (by omega : j = t.length ∨ j < t.length) with h | h
          · exfalso
            rw [HSl.out, h, List.drop_append_of_le_length (Nat.le_refl _), List.drop_of_length_le (Nat.le_refl _)] at hx
            simp at hx
            exact h32 hx.symm
          · exact h
        have hlc : t[j]? = some x := by
          rw [HSl.out, List.drop_append_of_le_length (by omega), List.drop_eq_getElem_cons hkl] at hx
          rw [List.getElem?_eq_getElem hkl]
          exact congrArg some (List.cons.inj hx).1
        have HN' := Lib.hid (noC_step 32 t f j x hfj hlc h32 HN.out)
        have hcne := u8neH h32 (n := 32) rfl
        clear hx hlc h32
        go_wp2
        go_roundw
        case rel => exact ⟨f, j + 1, lj, by omega, by omega, rfl, by go_num, hoj, by omega, .inl (by omega), HN', HF, LJ⟩
        case measure => simp [intOf]; omega
    · have hfe : f = t.length + 1 := by omega
      have HR := Lib.hid (show splitL 32 t = lj by rw [HF.out, hfe, tailC_end, List.append_nil])
      go_wp2
      go_ret
      exact ⟨⟨_, rfl, by rw [HR.out]; exact hoj⟩, LJ⟩
theorem xh_digit (b : UInt8) (w : World) :
    Calls Tryz.prog 254 #[.int .u8 (b.toNat : Int)] w fun e w' => e = .returned (.bool (digC b)) ∧ w = w' := by
  have HR := Lib.hid (show digC b = decide (48 ≤ b.toNat ∧ b.toNat ≤ 57) from rfl)
  by_cases h1 : 48 ≤ b.toNat
  · by_cases h2 : b.toNat ≤ 57
    · go_enter Tryz.func254, Tryz.ntmps254
      go_wp2
      go_ret
      exact ⟨retB (by rw [HR.out]; simp [h1, h2]; omega), rfl⟩
    · go_enter Tryz.func254, Tryz.ntmps254
      go_wp2
      go_ret
      exact ⟨retB (by rw [HR.out]; simp [h2]; omega), rfl⟩
  · go_enter Tryz.func254, Tryz.ntmps254
    go_wp2
    go_ret
    exact ⟨retB (by rw [HR.out]; simp [h1]), rfl⟩
end Go.Proofs.YtlambdccmfnloaaGreatDoor
namespace Go.Proofs.YtlambdccmfnloaaGreatDoor
open Go.RowKit
set_option maxRecDepth 100000
set_option maxHeartbeats 2000000

theorem set_self {cs : Array Value} {v : Value} (h : cs[0]? = some v) : cs.setIfInBounds 0 v = cs := by
  apply Array.ext_getElem?
  intro i
  rw [Array.getElem?_setIfInBounds]
  split
  · rename_i h0
    subst h0
    split
    · exact h.symm
    · rename_i h1
      rw [Array.getElem?_eq_none (by omega)]
  · rfl
theorem set_set {cs : Array Value} {u v : Value} : (cs.setIfInBounds 0 u).setIfInBounds 0 v = cs.setIfInBounds 0 v := by
  apply Array.ext_getElem?
  intro i
  simp only [Array.getElem?_setIfInBounds, Array.size_setIfInBounds]
  split <;> rfl
theorem set_get {cs : Array Value} {u v : Value} (h : cs[0]? = some u) : (cs.setIfInBounds 0 v)[0]? = some v := by
  have := (Array.getElem?_eq_some_iff.1 h).1
  simp [this]
theorem Cel.fr {w w' : World} {g : Nat} {u : Value} {S : Nat → Prop} (h : Cel w g u) (hf : Fr S w w') (hs : ¬ S g) : Cel w' g u := by
  obtain ⟨T, cs, h, hc⟩ := h
  exact ⟨T, cs, h.fr hf hs, hc⟩
/-- At block g stands, ahead of other cells, a row of fields of the call's own. -/
structure FH (w : World) (T : TypeId) (g base : Nat) (v : Value) (l : List Fd) (cs : Array Value) : Prop where
  blk : Blk w g T cs
  c0 : cs[0]? = some v
  own : OF w base v l
  lo : base ≤ g
  ne : v.ownBlock ≠ some g
theorem FH.cel {w : World} {T : TypeId} {g base : Nat} {v : Value} {l : List Fd} {cs : Array Value} (h : FH w T g base v l cs) : Cel w g v := Cel.of h.blk h.c0
theorem FH.fr {w w' : World} {T : TypeId} {g base : Nat} {v : Value} {l : List Fd} {cs : Array Value} {S : Nat → Prop} (h : FH w T g base v l cs) (hf : Fr S w w') (h1 : ¬ S g) (h2 : ∀ k, v.ownBlock = some k → ¬ S k) : FH w' T g base v l cs :=
  ⟨h.blk.fr hf h1, h.c0, Own.fr h.own hf h2, h.lo, h.ne⟩
theorem FH.belowW {w w' : World} {T : TypeId} {g base : Nat} {v : Value} {l : List Fd} {cs : Array Value} (h : FH w T g base v l cs) (hb : Below w.heap.size w w') : FH w' T g base v l cs :=
  ⟨h.blk.belowW hb, h.c0, h.own.belowW hb, h.lo, h.ne⟩
theorem FH.alloc {w : World} {T : TypeId} {g base : Nat} {v : Value} {l : List Fd} {cs : Array Value} (h : FH w T g base v l cs) (o : Obj) : FH (w.alloc o) T g base v l cs :=
  ⟨h.blk.alloc o, h.c0, Own.alloc h.own o, h.lo, h.ne⟩
theorem FH.rd {w : World} {T : TypeId} {g base : Nat} {v : Value} {l : List Fd} {cs : Array Value} (h : FH w T g base v l cs) (T' : TypeId) : FR w T' g l := by
  obtain ⟨A, c, e, h1, -, h3⟩ := h.own.form
  exact ⟨A, c, by rw [← e]; exact h.cel, h1, h3⟩
theorem FH.app {w1 w3 : World} {T : TypeId} {g base : Nat} {v v' : Value} {l l' : List Fd} {cs : Array Value} (h : FH w1 T g base v l cs) (hx : Ext w1 w3 v v') (ho : OF w3 base v' l') : FH (w3.setCell ⟨g, 0, none⟩ v') T g base v' l' (cs.setIfInBounds 0 v') := by
  have hne : ∀ k, v'.ownBlock = some k → k ≠ g := by
    intro k hk hg
    subst hg
    rcases hx.own k hk with h1 | h1
    · exact h.ne h1
    · have := h.blk.lt; omega
  exact ⟨(h.blk.fr hx.fr h.ne).set_ 0 v', set_get h.c0, Own.far ho (p := ⟨g, 0, none⟩) hne v', h.lo, fun e => hne g e rfl⟩
def AddPostH (T : TypeId) (w : World) (g base : Nat) (v : Value) (cs : Array Value) (r : List Fd × Nat × Int) (e : Ending) (w' : World) : Prop :=
  e = .returned (addV r) ∧ (∃ v', FH w' T g base v' r.1 (cs.setIfInBounds 0 v') ∧ (∀ k, v'.ownBlock = some k → v.ownBlock = some k ∨ w.heap.size ≤ k)) ∧ Fr (FS g v) w w'
theorem ref10_AddH (g base n c B : Nat) (T : TypeId) (cs : Array Value) (A : Option Addr) (v : Value) (acc l : List Fd) (w : World) (hF : FH w T g base v acc cs) (hA : Rd w B 2 A n (fcells l)) (hB : B ≤ w.heap.size)
    (hne : 0 < n → ∀ a, A = some a → ¬ FS g v a.block) (hsz : FdSz l) (hacc : acc.length ≤ 24) (hb : base ≤ w.heap.size) (hn : n ≤ 140737488355328) :
    Calls Tryz.prog 210 #[.pointer (some ⟨g, 0, none⟩), .slice A n c] w (AddPostH T w g base v cs (addL acc l 0)) := by
  have hln := fcells_n hA
  go_enter Tryz.func210, Tryz.ntmps210
  go_wp2
  go_loopw [6] (fun i wr => ∃ (k : Nat) (vk : Value) (ak : List Fd), k ≤ n ∧ i = .int .i64 k ∧ FH wr T g base vk ak (cs.setIfInBounds 0 vk) ∧ ak.length ≤ 24 ∧ Hid (addL acc l 0 = addL ak (l.drop k) k) ∧ Fr (FS g v) w wr ∧ (∀ j, vk.ownBlock = some j → v.ownBlock = some j ∨ w.heap.size ≤ j)) (fun i _ => n - (intOf i).toNat)
  case atStart => exact ⟨0, v, acc, Nat.zero_le _, rfl, by rw [set_self hF.c0]; exact hF, hacc, rfl, Fr.refl _ _, fun j h => .inl h⟩
  case round =>
    obtain ⟨k, vk, ak, hk, rfl, hFk, hak, H, hfr, hown⟩ := hrel
    by_cases hlt : k < n
    · obtain ⟨f, hf, hd⟩ := drop_fd (by omega : k < l.length)
      obtain ⟨s1, s2⟩ := hsz.at hf
      have hAk := hA.frm hB hfr hne
      obtain ⟨b, o, rfl, hbB, x0, x1⟩ := hAk.fd hln k f hf
      obtain ⟨Ak, ck, rfl, hc1, hc2, hc3⟩ := hFk.own.form
      have hS := hfr.size
      have H2 := Lib.hid (show addL acc l 0 = addL ak (f :: l.drop (k + 1)) k by rw [H.out, hd])
      have Hf := Lib.hid hf
      clear hf hd H
      go_wp2_with fail
      refine (ref10_Is f wr s1 s2).mono ?_
      rintro e w1 ⟨rfl, LW⟩
      have hF1 := hFk.belowW LW
      have hA1 := hAk.belowW (by omega) LW
      obtain ⟨y0, y1⟩ := hF1.cel.c1
      have hfr1 := hfr.belowW LW
      have hS1 := LW.size
      obtain ⟨b', o', e', hb', z0, z1⟩ := hA1.fd hln k f Hf.out
      injection e' with e'
      injection e' with e1 e2
      subst e1 e2
      clear x0 x1 hc3 hFk hfr
      cases hI : isF f
      · have HR := Lib.hid (H2.out.trans (addL_bad _ _ _ _ hI))
        clear hI
        go_wp2
        go_ret2
        exact ⟨by rw [HR.out]; rfl, by rw [HR.out]; exact ⟨_, hF1, hown⟩, hfr1⟩
      · by_cases h24 : 24 ≤ ak.length
        · have HR := Lib.hid (H2.out.trans (addL_full _ _ _ _ hI h24))
          clear hI
          go_wp2
          go_ret2
          exact ⟨by rw [HR.out]; rfl, by rw [HR.out]; exact ⟨_, hF1, hown⟩, hfr1⟩
        · have HR := Lib.hid (H2.out.trans (addL_one _ _ _ _ hI (by omega)))
          obtain ⟨y2, y3⟩ := (hF1.cel.alloc (.cells #[sv f.1, sv f.2] 72)).c1
          have hkn : (k : Int) < (n : Int) := by omega
          clear hI H2
          go_wp2
          go_region_law (refine step_appF rfl (.tmp 31) (.tmp 36) rfl base (.slice Ak ak.length ck) ak rfl hF1.own (allocW ((Below.refl _ _).drew) _) _ 1 1 (w1.heap.size + 1) rfl [f] rfl (Rd.new w1.drew _ rfl [sv f.1, sv f.2] _ 1 2 rfl) (by simp; omega) (by omega) ?_; intro v' w3 ho3 hx3; obtain ⟨A3, c3, hv3, hc31, hc32, hc33⟩ := ho3.form; rw [show (ak ++ [f]).length = ak.length + 1 by simp] at hv3; subst hv3; have BB := hF1.cel.fr hx3.fr hF1.ne; obtain ⟨q0, q1⟩ := BB.c1)
          all_goals
            go_wp2
            go_roundw
            case rel => exact ⟨k + 1, _, ak ++ [f], by omega, by go_num, by have := hF1.app hx3 ho3; rw [set_set] at this; exact this, by simp; omega, HR, FS.trans hfr1 (FA.app_fr hx3 _) hown, FS.own hown (by omega) hx3.own⟩
            case measure => simp [intOf]; omega
    · have HR := Lib.hid (H.out.trans (show addL ak (l.drop k) k = (ak, k, 0) by rw [List.drop_of_length_le (by omega)]; rfl))
      obtain rfl : k = n := by omega
      go_wp2
      go_ret2
      exact ⟨by rw [HR.out]; rfl, by rw [HR.out]; exact ⟨_, hFk, hown⟩, hfr⟩
end Go.Proofs.YtlambdccmfnloaaGreatDoor
namespace Go.Proofs.YtlambdccmfnloaaGreatDoor
open Go.RowKit
set_option maxRecDepth 100000
set_option maxHeartbeats 4000000

def xhCells (h : HS) (bb : Nat) (v : Value) : Array Value := #[v, sv h.method, .int .i64 h.tgt.form, sv h.tgt.host, sv h.tgt.path, sv h.tgt.query, .int .i64 h.minor, .int .i64 h.how.kind, .int .i64 h.how.len, .bool h.how.close, .bool h.how.expect, .bool h.begun, .bool h.whole, .int .i64 h.status, .int .i64 bb, .int .i64 h.empty]
theorem os3 {w : World} {base : Nat} {v : Value} {m t u : Bs} (h : OS w base v [m, t, u]) : ∃ g c, v = .slice (some ⟨g, 0, none⟩) 3 c ∧ base ≤ g ∧ g < w.heap.size ∧ w.cell? ⟨g, 0, none⟩ = some (sv m) ∧ w.cell? ⟨g, 1, none⟩ = some (sv t) ∧ w.cell? ⟨g, 2, none⟩ = some (sv u) := by
  obtain ⟨g, c, rfl, h1, h2, h3⟩ := Own.form h (by simp)
  exact ⟨g, c, rfl, h1, h2, (Own.cellAt h 0 (by simp)).1, (Own.cellAt h 1 (by simp)).1, (Own.cellAt h 2 (by simp)).1⟩
def XStartPost (w : World) (g : Nat) (h : HS) (bb : Nat) (v : Value) (s : Bs) (e : Ending) (w' : World) : Prop :=
  e = .returned (.int .i64 (startL s).1) ∧ Blk w' g 134 (xhCells (stH h s) bb v) ∧ Fr (fun k => k = g) w w'
theorem xstarts_no {w w' : World} {g bb : Nat} {v : Value} {h : HS} {s : Bs} {st : Int} (hb : Blk w g 134 (xhCells h bb v)) (L : Below w.heap.size w w') (hs : startL s = (st, [], tgt0, 0)) (h0 : st ≠ 0) : XStartPost w g h bb v s (.returned (.int .i64 st)) w' := by
  refine ⟨by rw [hs], ?_, (Fr.refl _ w).belowW L⟩
  rw [stH, hs, if_neg h0]
  exact hb.belowW L
theorem verL_ne (v : Bs) (h : v.take 5 ≠ httpV) : verL v = none := by
  unfold verL
  split
  · rw [if_neg (fun h2 => h h2.1)]
  · rfl
theorem xhCells_start (h : HS) (bb : Nat) (v : Value) (m : Bs) (T : Tgt) : ((((((xhCells h bb v).setIfInBounds 11 (.bool true)).setIfInBounds 1 (sv m)).setIfInBounds 2 (.int .i64 T.form)).setIfInBounds 3 (sv T.host)).setIfInBounds 4 (sv T.path)).setIfInBounds 5 (sv T.query) = xhCells { h with begun := true, method := m, tgt := T } bb v := by
  simp [xhCells]
theorem xhCells_minor (h : HS) (bb : Nat) (v : Value) (n : Int) : (xhCells h bb v).setIfInBounds 6 (.int .i64 n) = xhCells { h with minor := n } bb v := by
  simp [xhCells]
theorem xh_start_go (g bb : Nat) (v : Value) (h : HS) (s : ByteArray) (w : World) (hb : Blk w g 134 (xhCells h bb v)) (hs : s.size ≤ 1000) (h0 : h.minor = 0) (m t u : Bs) (b : UInt8) (hL : splitL 32 s.data.toList = [m, t, u]) (t1 : tkL m = true) (p1 : u.take 5 = httpV) (hu : u.drop 5 = [49, 46, b]) (db : digC b = true) :
    Calls Tryz.prog 208 #[.pointer (some ⟨g, 0, none⟩), .string s] w (XStartPost w g h bb v s.data.toList) := by
  have hW := xh_words s w (by omega)
  rw [hL] at hW
  have HM := Lib.hid (startL_m _ _ _ _ hL)
  have hz : ∀ p ∈ splitL 32 s.data.toList, p.length ≤ s.size := fun p hp => by rw [← len_data]; exact splitL_mem _ _ _ hp
  rw [hL] at hz
  have z1 := hz m (by simp)
  have z2 := hz t (by simp)
  have z3 := hz u (by simp)
  have h8 : u.length = 8 := by
    have h1 : (u.drop 5).length = 3 := by rw [hu]; rfl
    rw [List.length_drop] at h1; omega
  clear hz hL
  have hT := fun w => ref_IsToken ⟨m.toArray⟩ w (by show m.length ≤ _; unfold maxLen; omega)
  rw [show (⟨m.toArray⟩ : ByteArray).data.toList = m from rfl, show (allT m && decide (0 < m.length)) = tkL m from rfl] at hT
  have HM2 := Lib.hid (HM.out.trans (if_pos t1))
  rw [t1] at hT
  clear t1 HM
  obtain ⟨U, hU⟩ : ∃ U : ByteArray, sv u = .string U := ⟨⟨u.toArray⟩, rfl⟩
  have hUl : U.data.toList = u := by injection hU with hU; rw [← hU]
  have us : U.size = 8 := by rw [← len_data, hUl]; exact h8
  clear h8
  have hg : ∀ i (hi : i < U.size), U.data.toList[i]? = some (U[i]'hi) := fun i hi => by rw [List.getElem?_eq_getElem (by rw [len_data]; exact hi)]; rfl
  have hgu : ∀ i, (u.drop 5)[i]? = u[5 + i]? := fun i => by rw [List.getElem?_drop]
  have e5 : U[5]'(by omega) = 49 := by have h1 := hg 5 (by omega); rw [hUl] at h1; have h2 := hgu 0; rw [hu] at h2; simp only [Nat.add_zero] at h2; rw [h1] at h2; simpa using h2.symm
  have e6 : U[6]'(by omega) = 46 := by have h1 := hg 6 (by omega); rw [hUl] at h1; have h2 := hgu 1; rw [hu] at h2; rw [show 5 + 1 = 6 from rfl, h1] at h2; simpa using h2.symm
  have e7 : U[7]'(by omega) = b := by have h1 := hg 7 (by omega); rw [hUl] at h1; have h2 := hgu 2; rw [hu] at h2; rw [show 5 + 2 = 7 from rfl, h1] at h2; simpa using h2.symm
  have HV := Lib.hid (verL_three u 49 46 b p1 hu)
  have hP : U.extract 0 5 = ⟨#[72, 84, 84, 80, 47]⟩ := str_ext (by rw [ext_to, hUl, p1]; rfl)
  clear hg hgu hu hUl p1
  have hDa := fun w => xh_digit 49 w
  have hDb := fun w => xh_digit b w
  have da : digC 49 = true := by decide
  rw [da] at hDa
  rw [db] at hDb
  have hv2 := HV.out.trans (if_pos ⟨rfl, da, db⟩)
  have HM3 := Lib.hid (show startL s.data.toList = (if (parseL m t).2 = 0 then (0, m, (parseL m t).1, if b = 48 then 0 else 1) else if (parseL m t).2 = 9 then (414, [], tgt0, 0) else (400, [], tgt0, 0) : Int × Bs × Tgt × Int) by rw [HM2.out, hv2]; rfl)
  clear HM2 HV da db hv2
  go_enter Tryz.func208, Tryz.ntmps208
  go_wp2_with fail
  refine hW.mono ?_
  rintro e w1 ⟨⟨V, rfl, ho⟩, L1⟩
  obtain ⟨k, c, rfl, hk1, hk2, x0, x1, x2⟩ := os3 ho
  rw [hU] at x2
  go_wp2_with fail
  refine (hT _).mono ?_
  rintro e w2 ⟨rfl, rfl⟩
  go_wp2_with fail
  refine (hDa _).mono ?_
  rintro e w3 ⟨rfl, rfl⟩
  go_wp2_with fail
  refine (hDb _).mono ?_
  rintro e w4 ⟨rfl, rfl⟩
  have hTP := fun w => ref11_Parse ⟨m.toArray⟩ ⟨t.toArray⟩ w (by show t.length < _; omega)
  rw [show (⟨m.toArray⟩ : ByteArray).data.toList = m from rfl, show (⟨t.toArray⟩ : ByteArray).data.toList = t from rfl] at hTP
  generalize parseL m t = PT at hTP HM3
  obtain ⟨T, er⟩ := PT
  simp only [tgR_mk] at hTP HM3
  clear hW hT hDa hDb ho
  have BV : Blk (w1.alloc (.cells #[.int .i64 0, .string ⟨#[]⟩, .string ⟨#[]⟩, .string ⟨#[]⟩] 23)).drew w1.heap.size 23 #[.int .i64 0, .string ⟨#[]⟩, .string ⟨#[]⟩, .string ⟨#[]⟩] := (Blk.new' _ _ rfl _ _).belowW ((Below.refl _ _).drew)
  have LV : Below w1.heap.size w1 (w1.alloc (.cells #[.int .i64 0, .string ⟨#[]⟩, .string ⟨#[]⟩, .string ⟨#[]⟩] 23)).drew := (allocW (Below.refl w1.heap.size w1) _).drew
  have L3 := stepW L1 LV
  have M3 := L1.drew
  have v0 := (LV.cell (p := ⟨k, 0, none⟩) hk2).trans x0
  have v1 := (LV.cell (p := ⟨k, 1, none⟩) hk2).trans x1
  have hkV := Nat.lt_of_lt_of_le hk2 LV.size
  have hnw : ¬ k = w1.heap.size := by omega
  have hnw2 : ¬ w1.heap.size = k := by omega
  have hs1 := L1.size
  go_upto_region 9 with (fail)
  go_cut [7, 8] (fun v8 v9 wx => ∃ tb, v8 = .pointer (some ⟨tb, 0, none⟩) ∧ v9 = .int .i64 er ∧ Blk wx tb 23 #[.int .i64 T.form, sv T.host, sv T.path, sv T.query] ∧ k < tb ∧ w.heap.size ≤ tb ∧ Below w.heap.size w wx ∧ wx.cell? ⟨k, 0, none⟩ = some (sv m))
  case first =>
    go_region_held3 (fun w' => w'.cell? ⟨k, 0, none⟩ = some (sv m) ∧ w'.cell? ⟨k, 1, none⟩ = some (sv t))
      (first | go_keep | exact S5)
      (first
        | (go_at_call 84
           refine (hTP (w1.alloc (.cells #[.int .i64 0, .string ⟨#[]⟩, .string ⟨#[]⟩, .string ⟨#[]⟩] 23)).drew).mono ?_
           rintro e w5 ⟨rfl, L5⟩
           have L5' := stepW L3 L5
           have S5 : w5.cell? ⟨k, 0, none⟩ = some (sv m) ∧ w5.cell? ⟨k, 1, none⟩ = some (sv t) := ⟨(L5.cell (p := ⟨k, 0, none⟩) hkV).trans v0, (L5.cell (p := ⟨k, 1, none⟩) hkV).trans v1⟩
           have B5 := BV.belowW L5
           obtain ⟨k0, k1, k2, k3, l0, l1, l2, l3⟩ := B5.c4)
        | (go_at_call 84
           refine (hTP w1.drew).mono ?_
           rintro e w5 ⟨rfl, L5⟩
           have L5' := stepW M3 L5
           have S5 : w5.cell? ⟨k, 0, none⟩ = some (sv m) ∧ w5.cell? ⟨k, 1, none⟩ = some (sv t) := ⟨(L5.cell (p := ⟨k, 0, none⟩) hk2).trans x0, (L5.cell (p := ⟨k, 1, none⟩) hk2).trans x1⟩))
    all_goals go_wp2_with fail
    all_goals go_meet
    all_goals case rel =>
      first
        | (have BB5 := B5
           exact ⟨_, rfl, rfl, Blk.set4 BB5 _ _ _ _, hk2, hs1, below_set4 L5' hs1 _ _ _ _, (cell_set4 hnw).trans S5.1⟩)
        | exact ⟨_, rfl, rfl, Blk.new' _ _ rfl _ _, Nat.lt_of_lt_of_le hk2 L5.size, L5'.size, allocW L5' _, ((allocW (Below.refl w5.heap.size w5) _).cell (p := ⟨k, 0, none⟩) (Nat.lt_of_lt_of_le hk2 L5.size)).trans S5.1⟩
  case rest =>
    obtain ⟨tb, rfl, rfl, BT, htb, htw, LX, xm⟩ := hcut
    obtain ⟨wx, rfl⟩ : ∃ wx, wx = wc := ⟨_, rfl⟩
    by_cases er0 : er = 0
    · subst er0
      have HE := Lib.hid (show startL s.data.toList = (0, m, T, if b = 48 then 0 else 1) by rw [HM3.out, if_pos rfl])
      have hbx := hb.belowW LX
      have hgl := hb.lt
      have hgt : ¬ g = tb := by omega
      have hgt2 : ¬ tb = g := fun h1 => hgt h1.symm
      have hgw : ¬ g = k := by omega
      have hgw2 : ¬ k = g := fun h1 => hgw h1.symm
      have hbu := hbx
      unfold xhCells at hbu
      obtain ⟨⟨j0, j1, j2, j3, j4, j5, j6, j7, j8, j9, j10, j11, j12, j13, j14, j15⟩, i0, i1, i2, i3, i4, i5, i6, i7, i8, i9, i10, i11, i12, i13, i14, i15⟩ := Blk.c16 hbu
      obtain ⟨k0, k1, k2, k3, l0, l1, l2, l3⟩ := BT.c4
      clear HM3 hTP BV LV L3 M3 v0 v1 hkV x0 x1 x2 j0 j7 j8 j9 j10 j12 j13 j14 j15 i0 i7 i8 i9 i10 i12 i13 i14 i15 BT L1 hbu
      go_wp2_with fail
      go_region_held3 (fun w' => w'.cell? ⟨k, 0, none⟩ = some (sv m) ∧ w'.cell? ⟨tb, 0, none⟩ = some (.int .i64 T.form) ∧ w'.cell? ⟨tb, 1, none⟩ = some (sv T.host) ∧ w'.cell? ⟨tb, 2, none⟩ = some (sv T.path) ∧ w'.cell? ⟨tb, 3, none⟩ = some (sv T.query))
        (go_keep)
        (fail)
      have hB9 := ((((((hbx.set_ 11 (.bool true)).set_ 1 (sv m)).set_ 2 (.int .i64 T.form)).set_ 3 (sv T.host)).set_ 4 (sv T.path)).set_ 5 (sv T.query)).drew
      rw [xhCells_start] at hB9
      have hF0 : Fr (fun k => k = g) w wx := (Fr.refl _ w).belowW LX
      have hF9 := ((((((hF0.setCell (p := ⟨g, 11, none⟩) (.inl rfl) (.bool true)).setCell (p := ⟨g, 1, none⟩) (.inl rfl) (sv m)).setCell (p := ⟨g, 2, none⟩) (.inl rfl) (.int .i64 T.form)).setCell (p := ⟨g, 3, none⟩) (.inl rfl) (sv T.host)).setCell (p := ⟨g, 4, none⟩) (.inl rfl) (sv T.path)).setCell (p := ⟨g, 5, none⟩) (.inl rfl) (sv T.query)).drew
      generalize hV9 : ((((((wx.setCell ⟨g, 11, none⟩ (.bool true)).setCell ⟨g, 1, none⟩ (sv m)).setCell ⟨g, 2, none⟩ (.int .i64 T.form)).setCell ⟨g, 3, none⟩ (sv T.host)).setCell ⟨g, 4, none⟩ (sv T.path)).setCell ⟨g, 5, none⟩ (sv T.query)).drew = V9 at hB9 hF9 ⊢
      clear hV9
      have f6 := hB9.frozen 6
      have d6 : V9.cell? ⟨g, 6, none⟩ = some (.int .i64 h.minor) := hB9.cell 6
      by_cases b48 : b = 48
      · subst b48
        have HE0 := Lib.hid (show startL s.data.toList = (0, m, T, 0) by rw [HE.out, if_pos rfl])
        have hB10 : Blk V9 g 134 (xhCells { h with begun := true, method := m, tgt := T, minor := 0 } bb v) := by rw [← h0]; exact hB9
        clear HE hB9
        go_wp2
        go_ret
        refine ⟨by rw [HE0.out] <;> rfl, ?_, hF9⟩
        rw [stH_yes _ _ (by rw [HE0.out]), HE0.out]
        exact hB10
      · have HE0 := Lib.hid (show startL s.data.toList = (0, m, T, 1) by rw [HE.out, if_neg b48])
        have hne := u8neH b48 (n := 48) rfl
        have hne2 : ((b.toNat : Int) != 48) = true := by rw [bne, hne]; rfl
        have hB10 := hB9.set_ 6 (.int .i64 1)
        rw [xhCells_minor] at hB10
        clear HE hB9
        go_wp2
        go_ret
        refine ⟨by rw [HE0.out] <;> rfl, ?_, hF9.setCell (.inl rfl) _⟩
        rw [stH_yes _ _ (by rw [HE0.out]), HE0.out]
        exact hB10
    · have hz0 : (er == 0) = false := by rw [Bool.eq_false_iff]; intro h0; rw [beq_iff_eq] at h0; exact er0 h0
      by_cases er9 : er = 9
      · subst er9
        have HE := Lib.hid (show startL s.data.toList = (414, [], tgt0, 0) by rw [HM3.out, if_neg er0, if_pos rfl])
        clear HM3 hTP BV LV L3 M3 v0 v1 hkV x0 x1 x2 L1
        go_wp2
        go_ret
        exact xstarts_no hb LX HE.out (by decide)
      · have HE := Lib.hid (show startL s.data.toList = (400, [], tgt0, 0) by rw [HM3.out, if_neg er0, if_neg er9])
        have hz9 : (er == 9) = false := by rw [Bool.eq_false_iff]; intro h0; rw [beq_iff_eq] at h0; exact er9 h0
        clear HM3 hTP BV LV L3 M3 v0 v1 hkV x0 x1 x2 L1
        go_wp2
        go_ret
        exact xstarts_no hb LX HE.out (by decide)
theorem eight_of (v : Bs) (h : v.length = 8) : ∃ a d b, v.drop 5 = [a, d, b] := three_of _ (by rw [List.length_drop, h])
theorem xh_start (g bb : Nat) (v : Value) (h : HS) (s : ByteArray) (w : World) (hb : Blk w g 134 (xhCells h bb v)) (hs : s.size ≤ 1000) (h0 : h.minor = 0) :
    Calls Tryz.prog 208 #[.pointer (some ⟨g, 0, none⟩), .string s] w (XStartPost w g h bb v s.data.toList) := by
  obtain ⟨L, hL⟩ : ∃ L, L = splitL 32 s.data.toList := ⟨_, rfl⟩
  have hW := xh_words s w (by omega)
  rw [← hL] at hW
  by_cases h3 : L.length = 3
  · obtain ⟨m, t, u, rfl⟩ : ∃ m t u, L = [m, t, u] := by
      match L, h3 with
      | [m, t, u], _ => exact ⟨m, t, u, rfl⟩
    have HM := Lib.hid (startL_m _ _ _ _ hL.symm)
    have HL := Lib.hid hL.symm
    have hz : ∀ p ∈ splitL 32 s.data.toList, p.length ≤ s.size := fun p hp => by rw [← len_data]; exact splitL_mem _ _ _ hp
    rw [← hL] at hz
    have z1 := hz m (by simp)
    have z2 := hz t (by simp)
    have z3 := hz u (by simp)
    clear hz hL h3
    have hT := fun w => ref_IsToken ⟨m.toArray⟩ w (by show m.length ≤ _; unfold maxLen; omega)
    rw [show (⟨m.toArray⟩ : ByteArray).data.toList = m from rfl, show (allT m && decide (0 < m.length)) = tkL m from rfl] at hT
    cases t1 : tkL m
    · have HE := Lib.hid (show startL s.data.toList = (400, [], tgt0, 0) by rw [HM.out, t1]; rfl)
      rw [t1] at hT
      clear t1 HM
      go_enter Tryz.func208, Tryz.ntmps208
      go_wp2_with fail
      refine hW.mono ?_
      rintro e w1 ⟨⟨V, rfl, ho⟩, L1⟩
      obtain ⟨k, c, rfl, hk1, hk2, x0, x1, x2⟩ := os3 ho
      go_wp2_with fail
      refine (hT _).mono ?_
      rintro e w2 ⟨rfl, rfl⟩
      go_wp2
      go_ret
      exact xstarts_no hb L1 HE.out (by decide)
    · have HT1 := Lib.hid t1
      have HM2 := Lib.hid (HM.out.trans (if_pos t1))
      rw [t1] at hT
      clear t1 HM
      obtain ⟨U, hU⟩ : ∃ U : ByteArray, sv u = .string U := ⟨⟨u.toArray⟩, rfl⟩
      have hUl : U.data.toList = u := by injection hU with hU; rw [← hU]
      have hUs : U.size = u.length := by rw [← hUl, len_data]
      by_cases h8 : u.length = 8
      · obtain ⟨a, d, b, hu⟩ := eight_of _ h8
        have us : U.size = 8 := by omega
        clear hUs h8
        have hg : ∀ i (hi : i < U.size), U.data.toList[i]? = some (U[i]'hi) := fun i hi => by rw [List.getElem?_eq_getElem (by rw [len_data]; exact hi)]; rfl
        have hgu : ∀ i, (u.drop 5)[i]? = u[5 + i]? := fun i => by rw [List.getElem?_drop]
        have e5 : U[5]'(by omega) = a := by have h1 := hg 5 (by omega); rw [hUl] at h1; have h2 := hgu 0; rw [hu] at h2; simp only [Nat.add_zero] at h2; rw [h1] at h2; simpa using h2.symm
        have e6 : U[6]'(by omega) = d := by have h1 := hg 6 (by omega); rw [hUl] at h1; have h2 := hgu 1; rw [hu] at h2; rw [show 5 + 1 = 6 from rfl, h1] at h2; simpa using h2.symm
        have e7 : U[7]'(by omega) = b := by have h1 := hg 7 (by omega); rw [hUl] at h1; have h2 := hgu 2; rw [hu] at h2; rw [show 5 + 2 = 7 from rfl, h1] at h2; simpa using h2.symm
        obtain ⟨P, hP⟩ : ∃ P, U.extract 0 5 = P := ⟨_, rfl⟩
        have hPl : P.data.toList = u.take 5 := by rw [← hP, ext_to, hUl]
        have hDa := fun w => xh_digit a w
        have hDb := fun w => xh_digit b w
        clear hg hgu
        by_cases p1 : u.take 5 = httpV
        · have HV := Lib.hid (verL_three u a d b p1 hu)
          obtain rfl : P = ⟨#[72, 84, 84, 80, 47]⟩ := str_ext (by rw [hPl, p1]; rfl)
          have HP1 := Lib.hid p1
          have HU := Lib.hid hu
          clear hPl p1 hu hUl
          cases da : digC a
          · have HE := Lib.hid (show startL s.data.toList = (400, [], tgt0, 0) by rw [HM2.out, HV.out, if_neg (by rw [da]; simp)])
            rw [da] at hDa
            clear HM2 HV da
            go_enter Tryz.func208, Tryz.ntmps208
            go_wp2_with fail
            refine hW.mono ?_
            rintro e w1 ⟨⟨V, rfl, ho⟩, L1⟩
            obtain ⟨k, c, rfl, hk1, hk2, x0, x1, x2⟩ := os3 ho
            rw [hU] at x2
            go_wp2_with fail
            refine (hT _).mono ?_
            rintro e w2 ⟨rfl, rfl⟩
            go_wp2_with fail
            refine (hDa _).mono ?_
            rintro e w3 ⟨rfl, rfl⟩
            go_wp2
            go_ret
            exact xstarts_no hb L1 HE.out (by decide)
          · rw [da] at hDa
            by_cases d46 : d = 46
            · subst d46
              cases db : digC b
              · have HE := Lib.hid (show startL s.data.toList = (400, [], tgt0, 0) by rw [HM2.out, HV.out, if_neg (by rw [db]; simp)])
                rw [db] at hDb
                clear HM2 HV da db
                go_enter Tryz.func208, Tryz.ntmps208
                go_wp2_with fail
                refine hW.mono ?_
                rintro e w1 ⟨⟨V, rfl, ho⟩, L1⟩
                obtain ⟨k, c, rfl, hk1, hk2, x0, x1, x2⟩ := os3 ho
                rw [hU] at x2
                go_wp2_with fail
                refine (hT _).mono ?_
                rintro e w2 ⟨rfl, rfl⟩
                go_wp2_with fail
                refine (hDa _).mono ?_
                rintro e w3 ⟨rfl, rfl⟩
                go_wp2_with fail
                refine (hDb _).mono ?_
                rintro e w4 ⟨rfl, rfl⟩
                go_wp2
                go_ret
                exact xstarts_no hb L1 HE.out (by decide)
              · rw [db] at hDb
                have hv2 := HV.out.trans (if_pos ⟨rfl, da, db⟩)
                by_cases a49 : a = 49
                · subst a49
                  have HM3 := Lib.hid (show startL s.data.toList = (if (parseL m t).2 = 0 then (0, m, (parseL m t).1, if b = 48 then 0 else 1) else if (parseL m t).2 = 9 then (414, [], tgt0, 0) else (400, [], tgt0, 0) : Int × Bs × Tgt × Int) by rw [HM2.out, hv2]; rfl)
                  clear HM2 HV da hv2
                  exact xh_start_go g bb v h s w hb hs h0 m t u b HL.out HT1.out HP1.out HU.out db
                · have HE := Lib.hid (show startL s.data.toList = (505, [], tgt0, 0) by rw [HM2.out, hv2]; simp only; rw [if_neg a49])
                  have hne := u8neH a49 (n := 49) rfl
                  have hne2 : ((a.toNat : Int) != 49) = true := by rw [bne, hne]; rfl
                  clear HM2 HV da db hv2 a49
                  go_enter Tryz.func208, Tryz.ntmps208
                  go_wp2_with fail
                  refine hW.mono ?_
                  rintro e w1 ⟨⟨V, rfl, ho⟩, L1⟩
                  obtain ⟨k, c, rfl, hk1, hk2, x0, x1, x2⟩ := os3 ho
                  rw [hU] at x2
                  go_wp2_with fail
                  refine (hT _).mono ?_
                  rintro e w2 ⟨rfl, rfl⟩
                  go_wp2_with fail
                  refine (hDa _).mono ?_
                  rintro e w3 ⟨rfl, rfl⟩
                  go_wp2_with fail
                  refine (hDb _).mono ?_
                  rintro e w4 ⟨rfl, rfl⟩
                  go_wp2
                  go_ret
                  exact xstarts_no hb L1 HE.out (by decide)
            · have HE := Lib.hid (show startL s.data.toList = (400, [], tgt0, 0) by rw [HM2.out, HV.out, if_neg (fun h0 => d46 h0.1)])
              have hne := u8neH d46 (n := 46) rfl
              have hne2 : ((d.toNat : Int) != 46) = true := by rw [bne, hne]; rfl
              clear HM2 HV da d46
              go_enter Tryz.func208, Tryz.ntmps208
              go_wp2_with fail
              refine hW.mono ?_
              rintro e w1 ⟨⟨V, rfl, ho⟩, L1⟩
              obtain ⟨k, c, rfl, hk1, hk2, x0, x1, x2⟩ := os3 ho
              rw [hU] at x2
              go_wp2_with fail
              refine (hT _).mono ?_
              rintro e w2 ⟨rfl, rfl⟩
              go_wp2_with fail
              refine (hDa _).mono ?_
              rintro e w3 ⟨rfl, rfl⟩
              go_wp2
              go_ret
              exact xstarts_no hb L1 HE.out (by decide)
        · have HE := Lib.hid (show startL s.data.toList = (400, [], tgt0, 0) by rw [HM2.out, verL_ne u p1])
          have hPne : (P.toList == [72, 84, 84, 80, 47]) = false := by rw [Bool.eq_false_iff]; intro h0; rw [beq_iff_eq, ByteArray.toList_eq, hPl] at h0; exact p1 h0
          clear HM2 p1 hPl hu hUl
          go_enter Tryz.func208, Tryz.ntmps208
          go_wp2_with fail
          refine hW.mono ?_
          rintro e w1 ⟨⟨V, rfl, ho⟩, L1⟩
          obtain ⟨k, c, rfl, hk1, hk2, x0, x1, x2⟩ := os3 ho
          rw [hU] at x2
          go_wp2_with fail
          refine (hT _).mono ?_
          rintro e w2 ⟨rfl, rfl⟩
          go_wp2
          go_ret
          exact xstarts_no hb L1 HE.out (by decide)
      · have HE := Lib.hid (show startL s.data.toList = (400, [], tgt0, 0) by rw [HM2.out, verL_len u (by rw [List.length_drop]; omega)])
        have hs8 : ((U.size : Int) != 8) = true := by rw [bne_iff_ne]; omega
        clear HM2 h8 hUs hUl
        go_enter Tryz.func208, Tryz.ntmps208
        go_wp2_with fail
        refine hW.mono ?_
        rintro e w1 ⟨⟨V, rfl, ho⟩, L1⟩
        obtain ⟨k, c, rfl, hk1, hk2, x0, x1, x2⟩ := os3 ho
        rw [hU] at x2
        go_wp2_with fail
        refine (hT _).mono ?_
        rintro e w2 ⟨rfl, rfl⟩
        go_wp2
        go_ret
        exact xstarts_no hb L1 HE.out (by decide)
  · have HM := Lib.hid (startL_n s.data.toList (by rw [← hL]; exact h3))
    have h3i : ((L.length : Int) != 3) = true := by rw [bne_iff_ne]; omega
    clear hL h3
    go_enter Tryz.func208, Tryz.ntmps208
    go_wp2_with fail
    refine hW.mono ?_
    rintro e w1 ⟨⟨V, rfl, ho⟩, L1⟩
    obtain ⟨A, c, rfl, -, -, -⟩ := OS.form ho
    generalize L.length = n at *
    go_wp2
    go_ret
    exact xstarts_no hb L1 HM.out (by decide)
end Go.Proofs.YtlambdccmfnloaaGreatDoor
