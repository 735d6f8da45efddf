/- field.Add, field.Of. -/
import Derived.Test.YtmnnbfaaaifcoaaGreatDoorFld
namespace Go.Proofs.YtmnnbfaaaifcoaaGreatDoor
open Go.RowKit
set_option maxRecDepth 100000
set_option maxHeartbeats 2000000

def FdSz (l : List Fd) : Prop := ∀ f ∈ l, f.1.length ≤ 1000000 ∧ f.2.length ≤ 1000000
theorem FdSz.at {l : List Fd} (h : FdSz l) {k : Nat} {f : Fd} (hf : l[k]? = some f) : f.1.length ≤ 1000000 ∧ f.2.length ≤ 1000000 := h f (List.mem_of_getElem? hf)
theorem fcells_n {w : World} {B n : Nat} {A : Option Addr} {l : List Fd} (h : Rd w B 2 A n (fcells l)) : l.length = n := by
  have := h.1; rw [fcells_len] at this; omega
def addV (r : List Fd × Nat × Int) : Value := .tuple #[.int .i64 (r.2.1 : Int), .int .i64 r.2.2]
def AddPost (T : TypeId) (w : World) (g base : Nat) (v : Value) (r : List Fd × Nat × Int) (e : Ending) (w' : World) : Prop :=
  e = .returned (addV r) ∧ (∃ v', FA w' T g base v' r.1 ∧ ∀ k, v'.ownBlock = some k → v.ownBlock = some k ∨ w.heap.size ≤ k) ∧ Fr (FS g v) w w'
theorem drop_fd {l : List Fd} {k : Nat} (h : k < l.length) : ∃ f, l[k]? = some f ∧ l.drop k = f :: l.drop (k + 1) :=
  ⟨l[k], List.getElem?_eq_getElem h, List.drop_eq_getElem_cons h⟩

theorem fld_Add (g base n c B : Nat) (A : Option Addr) (v : Value) (acc l : List Fd) (w : World) (hF : FA w 104 g base v acc) (hA : Rd w B 2 A n (fcells l)) (hB : B ≤ w.heap.size)
    (hne : 0 < n → ∀ a, A = some a → ¬ FS g v a.block) (hsz : FdSz l) (hacc : acc.length ≤ 24) (hb : base ≤ w.heap.size) (hn : n ≤ 140737488355328) :
    Calls Tryz.prog 84 #[.pointer (some ⟨g, 0, none⟩), .slice A n c] w (AddPost 104 w g base v (addL acc l 0)) := by
  have hln := fcells_n hA
  go_enter Tryz.func84, Tryz.ntmps84
  go_wp2
  go_loopw [12] (fun i wr => ∃ (k : Nat) (vk : Value) (ak : List Fd), k ≤ n ∧ i = .int .i64 k ∧ FA wr 104 g base vk ak ∧ ak.length ≤ 24 ∧ Hid (addL acc l 0 = addL ak (l.drop k) k) ∧ Fr (FS g v) w wr ∧ (∀ j, vk.ownBlock = some j → v.ownBlock = some j ∨ w.heap.size ≤ j)) (fun i _ => n - (intOf i).toNat)
  case atStart => exact ⟨0, v, acc, Nat.zero_le _, rfl, hF, hacc, rfl, Fr.refl _ _, fun j h => .inl h⟩
  case round =>
    obtain ⟨k, vk, ak, hk, rfl, hFk, hak, H, hfr, hown⟩ := hrel
    by_cases hlt : k < n
    · obtain ⟨f, hf, hd⟩ := drop_fd (by omega : k < l.length)
      obtain ⟨s1, s2⟩ := hsz.at hf
      have hAk := hA.frm hB hfr hne
      obtain ⟨b, o, rfl, hbB, x0, x1⟩ := hAk.fd hln k f hf
      obtain ⟨Ak, ck, rfl, hc1, hc2, hc3⟩ := hFk.own.form
      have hS := hfr.size
      have H2 := Lib.hid (show addL acc l 0 = addL ak (f :: l.drop (k + 1)) k by rw [H.out, hd])
      have Hf := Lib.hid hf
      clear hf hd H
      go_wp2_with fail
      obtain ⟨V, hV⟩ : ∃ V, V = wr.alloc (.cells #[sv f.1, sv f.2] 49) := ⟨_, rfl⟩
      rw [← hV]
      have LV : Below wr.heap.size wr V := by rw [hV]; exact allocW (Below.refl _ _) _
      have BV : Blk V wr.heap.size 49 #[sv f.1, sv f.2] := by rw [hV]; exact Blk.new' _ _ rfl _ _
      clear hV
      refine (fld_isOne f V s1 s2).mono ?_
      rintro e w1 ⟨rfl, L1⟩
      have LW := stepW LV L1
      have hF1 := hFk.belowW LW
      have hA1 := hAk.belowW (by omega) LW
      obtain ⟨y0, y1⟩ := hF1.blk.c1
      obtain ⟨z0, z1, z2, z3⟩ := (BV.belowW L1).c2
      have hfr1 := hfr.belowW LW
      have hS1 := LW.size
      clear x0 x1 BV LV L1 hc3 hFk hfr
      cases hI : isF f
      · have HR := Lib.hid (H2.out.trans (addL_bad _ _ _ _ hI))
        clear hI
        go_wp2
        go_ret2
        exact ⟨by rw [HR.out]; rfl, by rw [HR.out]; exact ⟨_, hF1, hown⟩, hfr1⟩
      · by_cases h24 : 24 ≤ ak.length
        · have HR := Lib.hid (H2.out.trans (addL_full _ _ _ _ hI h24))
          clear hI
          go_wp2
          go_ret2
          exact ⟨by rw [HR.out]; rfl, by rw [HR.out]; exact ⟨_, hF1, hown⟩, hfr1⟩
        · have HR := Lib.hid (H2.out.trans (addL_one _ _ _ _ hI (by omega)))
          obtain ⟨y2, y3⟩ := (hF1.blk.alloc (.cells #[sv f.1, sv f.2] 49)).c1
          clear hI H2
          go_wp2
          go_region_law (refine step_appF rfl (.tmp 34) (.tmp 36) rfl base (.slice Ak ak.length ck) ak rfl hF1.own (allocW ((Below.refl _ _).drew) _) _ 1 1 (w1.heap.size + 1) rfl [f] rfl (Rd.new w1.drew _ rfl [sv f.1, sv f.2] _ 1 2 rfl) (by simp; omega) (by omega) ?_; intro v' w3 ho3 hx3; obtain ⟨A3, c3, hv3, hc31, hc32, hc33⟩ := ho3.form; rw [show (ak ++ [f]).length = ak.length + 1 by simp] at hv3; subst hv3; have BB := hF1.blk.fr hx3.fr hF1.ne; obtain ⟨q0, q1⟩ := BB.c1)
          all_goals
            go_wp2
            go_roundw
            case rel => exact ⟨k + 1, _, ak ++ [f], by omega, by go_num, hF1.app hx3 ho3, by simp; omega, HR, FS.trans hfr1 (FA.app_fr hx3 _) hown, FS.own hown (by omega) hx3.own⟩
            case measure => simp [intOf]; omega
    · have HR := Lib.hid (H.out.trans (show addL ak (l.drop k) k = (ak, k, 0) by rw [List.drop_of_length_le (by omega)]; rfl))
      obtain rfl : k = n := by omega
      go_wp2
      go_ret2
      exact ⟨by rw [HR.out]; rfl, by rw [HR.out]; exact ⟨_, hFk, hown⟩, hfr⟩
theorem fld_Of (n c : Nat) (A : Option Addr) (l : List Fd) (w : World) (hA : Rd w w.heap.size 2 A n (fcells l)) (hsz : FdSz l) (hn : n ≤ 140737488355328) :
    Calls Tryz.prog 49 #[.slice A n c] w fun e w' => (∃ g v, e = .returned (.pointer (some ⟨g, 0, none⟩)) ∧ FA w' 104 g w.heap.size v (addL [] l 0).1) ∧ Below w.heap.size w w' := by
  go_enter Tryz.func49, Tryz.ntmps49
  go_wp2_with fail
  obtain ⟨V, hV⟩ : ∃ V, V = w.alloc (.cells #[.slice none 0 0] 104) := ⟨_, rfl⟩
  rw [← hV]
  have LV : Below w.heap.size w V := by rw [hV]; exact allocW (Below.refl _ _) _
  have BV : Blk V w.heap.size 104 #[.slice none 0 0] := by rw [hV]; exact Blk.new' _ _ rfl _ _
  clear hV
  have hF : FA V 104 w.heap.size w.heap.size (.slice none 0 0) [] := ⟨BV, OF.nil _ _, Nat.le_refl _, by simp [Value.ownBlock]⟩
  have hA1 := hA.belowW (Nat.le_refl _) LV
  have hS : ∀ i, FS w.heap.size (.slice none 0 0) i → w.heap.size ≤ i := by
    intro i hi
    rcases hi with h | h
    · omega
    · simp [Value.ownBlock] at h
  refine (fld_Add w.heap.size w.heap.size n c w.heap.size A (.slice none 0 0) [] l V hF hA1 LV.size (hA1.off hS) hsz (Nat.zero_le _) LV.size hn).mono ?_
  rintro e w1 ⟨rfl, ⟨v', hF1, hv'⟩, hfr⟩
  have L1 : Below w.heap.size w w1 := LV.trans (hfr.toBelow LV.size hS)
  unfold addV
  go_wp2
  go_ret
  exact ⟨⟨_, _, rfl, hF1⟩, L1⟩
end Go.Proofs.YtmnnbfaaaifcoaaGreatDoor
