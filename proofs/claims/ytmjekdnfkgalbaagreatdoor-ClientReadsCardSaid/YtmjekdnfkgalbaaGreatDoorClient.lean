/- client: requests as bytes. usherlaw26's own helpers: heavyFields, roomy, same, stands, known; the law ClientPlain. -/
import Derived.Test.YtmjekdnfkgalbaaGreatDoorFPl
import Derived.Test.YtmjekdnfkgalbaaGreatDoorFmt
import Derived.Deep.QuietTactic
import Derived.BigQuiet
import Derived.Lib.SmallJoins
namespace Go.Proofs.YtmjekdnfkgalbaaGreatDoor
open Go.RowKit
set_option maxRecDepth 100000
set_option maxHeartbeats 2000000

def hdrL (f : Fd) : Bs := f.1 ++ [58, 32] ++ f.2 ++ [13, 10]
def hdrsL (l : List Fd) : Bs := (l.map hdrL).flatten
def cheadL (first : Bs) (l : List Fd) : Bs := first ++ [13, 10] ++ hdrsL l ++ [13, 10]
def fsz : List Fd → Nat
  | [] => 0
  | f :: l => 5 + f.1.length + f.2.length + fsz l
theorem fsz_app (a b : List Fd) : fsz (a ++ b) = fsz a + fsz b := by
  induction a with
  | nil => simp [fsz]
  | cons f a ih => simp only [List.cons_append, fsz, ih]; omega
theorem fsz_len (l : List Fd) : l.length * 5 ≤ fsz l := by
  induction l with
  | nil => simp
  | cons f l ih => simp only [List.length_cons, fsz]; omega
theorem hdrsL_len (l : List Fd) : (hdrsL l).length ≤ fsz l := by
  induction l with
  | nil => simp [hdrsL]
  | cons f l ih => simp only [hdrsL, List.map_cons, List.flatten_cons, List.length_append, fsz, hdrL, List.length_cons, List.length_nil] at ih ⊢; omega
theorem hdrsL_app (a b : List Fd) : hdrsL (a ++ b) = hdrsL a ++ hdrsL b := by simp [hdrsL]
theorem take_at {α : Type} (l : List α) (k : Nat) (x : α) (h : l[k]? = some x) : l.take (k + 1) = l.take k ++ [x] := by
  rw [List.take_add_one, h]; rfl
theorem fsz_take (l : List Fd) (k : Nat) : fsz (l.take k) ≤ fsz l := by
  conv => rhs; rw [← List.take_append_drop k l, fsz_app]
  omega
theorem fsz_mem (l : List Fd) (f : Fd) (h : f ∈ l) : f.1.length + f.2.length ≤ fsz l := by
  induction l with
  | nil => cases h
  | cons g l ih =>
    simp only [fsz]
    rcases List.mem_cons.1 h with rfl | h
    · omega
    · have := ih h; omega

/-- Bytes that a call made. -/
def CBytesPost (w : World) (l : Bs) (e : Ending) (w' : World) : Prop :=
  ∃ A n c, e = .returned (.slice A n c) ∧ Own w' w.heap.size 5 1 (.slice A n c) n (l.map bv) ∧ Below w.heap.size w w'

theorem size_mkC (l : Bs) : (⟨l.toArray⟩ : ByteArray).size = l.length := by show l.toArray.size = l.length; simp

theorem cli_head (first : ByteArray) (A : Option Addr) (n cp : Nat) (l : List Fd) (w : World) (hA : Rd w w.heap.size 2 A n (fcells l)) (hf : first.size ≤ 10000) (hl : fsz l ≤ 10000) :
    Calls Tryz.prog 53 #[.string first, .slice A n cp] w (CBytesPost w (cheadL first.data.toList l)) := by
  obtain ⟨i0, hi, hz0, hz1, hz2⟩ := info_parts info_u8
  have e1 : l.length = n := by have := hA.1; rw [fcells_len] at this; omega
  have hn5 := fsz_len l
  have hf2 : first.data.toList.length = first.size := len_data first
  have hs1 : (first ++ ⟨#[13, 10]⟩ : ByteArray).size = first.size + 2 := by rw [ByteArray.size_append]; rfl
  go_enter Tryz.func53, Tryz.ntmps53
  go_wp2_with (refine wpList_toBytes _ rfl (.tmp 9) 9 22 rfl 5 w.heap.size (first ++ ⟨#[13, 10]⟩ : ByteArray) rfl Tryz.underlying9 Tryz.underlying22 Tryz.underlying5 (by rw [hs1]; unfold maxLen; omega) (Nat.le_refl _) ?_
               intro cap w1 hcap ho1 hg1 hz1')
  have L1 := below_of_none hg1
  have ho1' : Own w1 w.heap.size 5 1 (.slice (some ⟨w.heap.size, 0, none⟩) (first.size + 2) cap) (first.size + 2) ((first.data.toList ++ [13, 10] ++ hdrsL (l.take 0)).map bv) := by
    have e : first.data.toList ++ [13, 10] ++ hdrsL (l.take 0) = (first ++ ⟨#[13, 10]⟩ : ByteArray).data.toList := by rw [app_data]; simp [hdrsL]
    rw [e, ← hs1]; exact ho1
  clear ho1 hg1 hz1' hcap
  go_loopw [5, 13] (fun v i wr => ∃ (k : Nat) (A1 : Option Addr) (m c1 : Nat), k ≤ n ∧ i = .int .i64 k ∧ v = .slice A1 m c1 ∧ Own wr w.heap.size 5 1 (.slice A1 m c1) m ((first.data.toList ++ [13, 10] ++ hdrsL (l.take k)).map bv) ∧ Below w.heap.size w wr) (fun _ i _ => n - (intOf i).toNat)
  case atStart => exact ⟨0, _, _, _, Nat.zero_le _, rfl, rfl, ho1', L1⟩
  case round =>
    obtain ⟨k, A1, m, c1, hk, rfl, rfl, ho, hb⟩ := hrel
    have hm : m ≤ 20002 := by
      have h1 := ho.1
      have h2 := hdrsL_len (l.take k)
      have h3 := fsz_take l k
      simp at h1
      omega
    have S1 := hb.size
    by_cases hlt : k < n
    · obtain ⟨b1, o1, rfl, hb1, hx1⟩ := hA.2 (by omega)
      obtain ⟨x, hx, -⟩ := drop_list l k (by omega)
      obtain ⟨cx0, cx1⟩ := fcells_at _ _ _ hx
      have hw := fun p hp => hb.cell (p := p) hp
      have cx := (hw ⟨b1, o1 + k * 2, none⟩ hb1).trans (hx1 (k * 2) _ cx0)
      have cx' := (hw ⟨b1, o1 + (k * 2 + 1), none⟩ hb1).trans (hx1 (k * 2 + 1) _ cx1)
      rw [← Nat.add_assoc] at cx'
      have hfm := fsz_mem l x (List.mem_of_getElem? hx)
      have Ht := Lib.hid (take_at l k x hx)
      clear hx1 cx0 cx1 hx hw
      go_wp2_with fail
      refine (asc_Join _ 4 4 (wr.heap.size + 2) [⟨x.1.toArray⟩, ⟨#[58, 32]⟩, ⟨x.2.toArray⟩, ⟨#[13, 10]⟩] _ (by simp) (Rd.new _ _ (by simp) [.string ⟨x.1.toArray⟩, .string ⟨#[58, 32]⟩, .string ⟨x.2.toArray⟩, .string ⟨#[13, 10]⟩] 9 4 1 rfl) (by decide) (by simp; omega) (by decide)).mono ?_
      rintro e w2 ⟨rfl, L2⟩
      have ho2 := ((ho.alloc (.cells #[sv x.1, sv x.2] 58)).alloc (.cells #[.string ⟨x.1.toArray⟩, .string ⟨#[58, 32]⟩, .string ⟨x.2.toArray⟩, .string ⟨#[13, 10]⟩] 9)).belowW L2
      have hb2 := stepW (allocW (allocW hb (.cells #[sv x.1, sv x.2] 58)) (.cells #[.string ⟨x.1.toArray⟩, .string ⟨#[58, 32]⟩, .string ⟨x.2.toArray⟩, .string ⟨#[13, 10]⟩] 9)) L2
      have hlx : (List.map (fun x => x.data.toList) [(⟨x.1.toArray⟩ : ByteArray), ⟨#[58, 32]⟩, ⟨x.2.toArray⟩, ⟨#[13, 10]⟩]).flatten = hdrL x := by simp [hdrL]
      rw [hlx]
      have hlen : (hdrL x).length ≤ 10004 := by simp [hdrL]; omega
      clear L2 ho hb
      go_wp2_with (at_builtin
                   go_must (
                     refine wpList_append_Own _ rfl (.tmp 17) (.tmp 23) 22 9 rfl w.heap.size 5 i0 _ 1 1 Tryz.underlying22 (.inr Tryz.underlying9) hi hz0 hz1 hz2 rfl (by decide) (.slice A1 m c1) _ _ rfl ho2 _ (hdrL x).length ((hdrL x).map bv) rfl (Src.of_string _) (by unfold maxLen; omega) (by omega) hb2.size ?_
                     intro v3 w3 ho3 hg3 hat3
                     obtain ⟨A3, c3, hv3, n3, m3, r3, q3⟩ := ho3.rd
                     subst hv3))
      go_roundw
      case rel =>
        refine ⟨k + 1, A3, m + (hdrL x).length, c3, by omega, by go_num, rfl, ?_, growW hb2 hg3 (fun j hj => (ho2.lt j hj).1)⟩
        rw [Ht.out, hdrsL_app]
        simpa [hdrsL] using ho3
      case measure => simp [intOf]; omega
    · have hkn : k = n := by omega
      subst hkn
      have hall : l.take k = l := List.take_of_length_le (by omega)
      rw [hall] at ho
      go_wp2_with (at_builtin
                   go_must (
                     refine wpList_append_Own _ rfl (.tmp 26) (.const (.string ⟨#[13, 10]⟩)) 22 9 rfl w.heap.size 5 i0 _ 1 1 Tryz.underlying22 (.inr Tryz.underlying9) hi hz0 hz1 hz2 rfl (by decide) (.slice A1 m c1) _ _ rfl ho _ 2 ([13, 10].map bv) rfl (Src.of_string [13, 10]) (by unfold maxLen; omega) (by omega) hb.size ?_
                     intro v3 w3 ho3 hg3 hat3
                     obtain ⟨A3, c3, hv3, n3, m3, r3, q3⟩ := ho3.rd
                     subst hv3))
      go_ret
      refine ⟨A3, m + 2, c3, rfl, ?_, growW hb hg3 (fun j hj => (ho.lt j hj).1)⟩
      simpa [cheadL] using ho3

theorem Own.litC (w : World) (g : Nat) (hg : g = w.heap.size) (base : Nat) (hb : base ≤ g) (e : TypeId) (size n : Nat) (cs : List Value) (hs : cs.length = n * size) (hn : n ≤ maxLen) : Own (w.alloc (.cells cs.toArray e)) base e size (.slice (some ⟨g, 0, none⟩) n n) n cs :=
  ⟨hs, .inr ⟨g, n, cs.toArray, (0, 0), rfl, hb, by rw [hg]; exact heap_alloc_new w _, .inl (Nat.le_refl _), Nat.le_refl _, hn, by simpa using hs, by rw [List.take_of_length_le (by simp; omega)]⟩⟩

def hostF : Fd := ([72, 111, 115, 116], [117, 115, 104, 101, 114])
def clF (n : Nat) : Fd := ([67, 111, 110, 116, 101, 110, 116, 45, 76, 101, 110, 103, 116, 104], digs 10 n)
def getL (p : Bs) (l : List Fd) : Bs := cheadL ([71, 69, 84, 32] ++ p ++ [32, 72, 84, 84, 80, 47, 49, 46, 49]) (hostF :: l)
def postL (p b : Bs) (l : List Fd) : Bs := cheadL ([80, 79, 83, 84, 32] ++ p ++ [32, 72, 84, 84, 80, 47, 49, 46, 49]) (hostF :: clF b.length :: l) ++ b
theorem getL_len (p : Bs) (l : List Fd) : (getL p l).length ≤ p.length + fsz l + 100 := by
  have h := hdrsL_len (hostF :: l)
  have e : fsz (hostF :: l) = 14 + fsz l := rfl
  unfold getL cheadL
  simp only [List.length_append, List.length_cons, List.length_nil]
  omega
theorem postL_len (p b : Bs) (l : List Fd) (hb : b.length ≤ 9223372036854775807) : (postL p b l).length ≤ p.length + b.length + fsz l + 200 := by
  have h := hdrsL_len (hostF :: clF b.length :: l)
  have e : fsz (hostF :: clF b.length :: l) = 14 + (5 + 14 + (digs 10 b.length).length + fsz l) := rfl
  have := digs10_len b.length hb
  unfold postL cheadL
  simp only [List.length_append, List.length_cons, List.length_nil]
  omega

theorem cli_Get (path : ByteArray) (A : Option Addr) (n cp : Nat) (l : List Fd) (w : World) (hA : Rd w w.heap.size 2 A n (fcells l)) (hp : path.size ≤ 4000) (hl : fsz l ≤ 4000) :
    Calls Tryz.prog 25 #[.string path, .slice A n cp] w (CBytesPost w (getL path.data.toList l)) := by
  obtain ⟨i0, hi, hz0, hz1, hz2⟩ := info_parts info_fd
  have e1 : l.length = n := by have := hA.1; rw [fcells_len] at this; omega
  have hn5 := fsz_len l
  go_enter Tryz.func25, Tryz.ntmps25
  go_wp2_with fail
  refine (asc_Join _ 3 3 (w.heap.size + 1) [⟨#[71, 69, 84, 32]⟩, path, ⟨#[32, 72, 84, 84, 80, 47, 49, 46, 49]⟩] _ (by simp) (Rd.new _ _ (by simp) [.string ⟨#[71, 69, 84, 32]⟩, .string path, .string ⟨#[32, 72, 84, 84, 80, 47, 49, 46, 49]⟩] 9 3 1 rfl) (by decide) (by simp; omega) (by decide)).mono ?_
  rintro e w2 ⟨rfl, L2⟩
  have L2' := stepW (allocW (Below.refl w.heap.size w) _) L2
  have hA2 := hA.below L2'
  clear L2
  go_wp2_with (at_builtin
               go_must (
                 refine wpList_append_Own _ rfl (.tmp 9) (.tmp 10) 36 36 rfl w.heap.size 58 i0 _ 2 32 Tryz.underlying36 (.inl Tryz.underlying36) hi hz0 hz1 hz2 rfl (by decide) (.slice (some ⟨w2.heap.size, 0, none⟩) 1 1) 1 (fcells [hostF]) rfl (Own.litC _ _ rfl _ L2'.size _ 2 1 (fcells [hostF]) rfl (by decide)) _ n (fcells l) rfl (Src.of_rd (hA2.alloc L2'.size _) (fcells_one _)) (by unfold maxLen; omega) (by omega) (by have := L2'.size; simp; omega) ?_
                 intro v3 w3 ho3 hg3 hat3
                 obtain ⟨A3, c3, hv3, n3, m3, r3, q3⟩ := ho3.rd
                 subst hv3))
  have L3 : Below w.heap.size w w3 := growW (allocW L2' _) hg3 (fun j hj => by cases hj; exact L2'.size)
  rw [← fcells_app] at r3
  have hfz : fsz ([hostF] ++ l) ≤ 10000 := by rw [fsz_app]; simp [fsz, hostF]; omega
  clear hg3 hat3 ho3
  go_wp2_with fail
  refine (cli_head ⟨(71 :: 69 :: 84 :: 32 :: (path.data.toList ++ [32, 72, 84, 84, 80, 47, 49, 46, 49])).toArray⟩ A3 (1 + n) c3 ([hostF] ++ l) w3 r3 (by rw [size_mkC]; simp only [List.length_cons, List.length_append, List.length_nil, len_data]; omega) hfz).mono ?_
  rintro e w4 ⟨A4, n4, c4, rfl, ho4, L4⟩
  have e5 : cheadL ([71, 69, 84, 32] ++ path.data.toList ++ [32, 72, 84, 84, 80, 47, 49, 46, 49]) ([hostF] ++ l) = getL path.data.toList l := rfl
  rw [List.toList_toArray, show (71 :: 69 :: 84 :: 32 :: (path.data.toList ++ [32, 72, 84, 84, 80, 47, 49, 46, 49]) : Bs) = [71, 69, 84, 32] ++ path.data.toList ++ [32, 72, 84, 84, 80, 47, 49, 46, 49] from rfl, e5] at ho4
  clear e5
  go_wp2
  go_ret
  exact ⟨A4, n4, c4, rfl, ho4.base_le L3.size, stepW L3 L4⟩

end Go.Proofs.YtmjekdnfkgalbaaGreatDoor
namespace Go.Proofs.YtmjekdnfkgalbaaGreatDoor
open Go.RowKit
set_option maxRecDepth 100000
set_option maxHeartbeats 2000000

theorem law_same26 (A1 : Option Addr) (n1 c1 : Nat) (l1 : Bs) (A2 : Option Addr) (n2 c2 : Nat) (l2 : Bs) (w : World) (h1 : Rd w w.heap.size 1 A1 n1 (l1.map bv)) (h2 : Rd w w.heap.size 1 A2 n2 (l2.map bv)) (hn : n1 ≤ maxLen) :
    Calls Tryz.prog 26 #[.slice A1 n1 c1, .slice A2 n2 c2] w fun e w' => e = .returned (.bool (decide (l1 = l2))) ∧ Below w.heap.size w w' := by
  unfold maxLen at hn
  have e1 : l1.length = n1 := by have := h1.1; simpa using this
  have e2 : l2.length = n2 := by have := h2.1; simpa using this
  go_enter Tryz.func26, Tryz.ntmps26
  go_wp2
  · go_ret
    have hq := neT ‹((n1 : Int) != n2) = true›
    exact ⟨retB (by rw [eq_comm, decide_eq_false_iff_not]; intro h; subst h; omega), Below.refl _ _⟩
  · have hq := neF ‹((n1 : Int) != n2) = false›
    have hq : n1 = n2 := by omega
    by_cases hz : n1 = 0
    · have z1 : l1 = [] := List.eq_nil_of_length_eq_zero (by omega)
      have z2 : l2 = [] := List.eq_nil_of_length_eq_zero (by omega)
      go_loopw [5] (fun i wr => i = .int .i64 0 ∧ Below w.heap.size w wr) (fun i _ => 0)
      case atStart => exact ⟨rfl, Below.refl _ _⟩
      case round =>
        obtain ⟨rfl, hb⟩ := hrel
        go_wp2
        go_ret
        exact ⟨retB (by rw [z1, z2]; rfl), hb⟩
    · obtain ⟨b1, o1, rfl, hb1, hx1⟩ := h1.2 (by omega)
      obtain ⟨b2, o2, rfl, hb2, hx2⟩ := h2.2 (by omega)
      clear h1 h2
      go_loopw [5] (fun i wr => ∃ k q : Nat, k ≤ n1 ∧ i = .int .i64 k ∧ Hid ((l1 = l2) = (l1.drop k = l2.drop k)) ∧ wr = w.drewN q) (fun i _ => n1 - (intOf i).toNat)
      case atStart => exact ⟨0, 0, Nat.zero_le _, rfl, rfl, rfl⟩
      case round =>
        obtain ⟨k, q, hk, rfl, H, rfl⟩ := hrel
        by_cases hlt : k < n1
        · obtain ⟨x, hx, hdx⟩ := drop_list l1 k (by omega)
          obtain ⟨y, hy, hdy⟩ := drop_list l2 k (by omega)
          have Hx := Lib.hid hdx; clear hdx
          have Hy := Lib.hid hdy; clear hdy
          have cx := hx1 k (bv x) (map_get bv _ _ _ hx)
          have cy := hx2 k (bv y) (map_get bv _ _ _ hy)
          go_wp2
          go_quiet (fail)
          go_wp2
          · go_ret
            refine ⟨retB ?_, below_drewN' (below_drewN' (Below.refl _ _) _) _⟩
            have ht : ¬ x = y := by rintro rfl; simp_all
            rw [eq_comm, decide_eq_false_iff_not, H.out, Hx.out, Hy.out]
            simp [ht]
          · go_roundw
            case rel => exact ⟨k + 1, q + nq, by omega, by go_num, by rw [H.out, Hx.out, Hy.out]; have ht : x = y := (by apply UInt8.toNat_inj.1; simp_all; try omega); simp only [ht, true_and, List.cons.injEq]; exact Lib.hid trivial, by simp [World.drewN]⟩
            case measure => simp [intOf]; omega
        · go_wp2
          go_ret
          refine ⟨retB ?_, below_drewN' (Below.refl _ _) _⟩
          rw [eq_comm, decide_eq_true_eq, H.out, List.drop_of_length_le (by omega), List.drop_of_length_le (by omega)]

theorem same26_yes (A1 : Option Addr) (n1 c1 : Nat) (A2 : Option Addr) (n2 c2 : Nat) (l : Bs) (w : World) (h1 : Rd w w.heap.size 1 A1 n1 (l.map bv)) (h2 : Rd w w.heap.size 1 A2 n2 (l.map bv)) (hn : l.length ≤ maxLen) :
    Calls Tryz.prog 26 #[.slice A1 n1 c1, .slice A2 n2 c2] w fun e w' => e = .returned (.bool true) ∧ Below w.heap.size w w' := by
  refine (law_same26 A1 n1 c1 l A2 n2 c2 l w h1 h2 ?_).mono fun e w' ⟨he, hb⟩ => ⟨by rw [he, decide_eq_true rfl], hb⟩
  have := h1.1; simp at this; omega

theorem fsz_one (l : List Fd) (k : Nat) (x : Fd) (h : l[k]? = some x) : fsz (l.take (k + 1)) = fsz (l.take k) + (5 + x.1.length + x.2.length) := by
  rw [take_at l k x h, fsz_app]; simp [fsz]

theorem law_heavy (A : Option Addr) (n cp : Nat) (l : List Fd) (w : World) (hA : Rd w w.heap.size 2 A n (fcells l)) (hl : ∀ f ∈ l, f.1.length ≤ 140737488355328 ∧ f.2.length ≤ 140737488355328) (hn : n ≤ maxLen) :
    Calls Tryz.prog 11 #[.slice A n cp] w fun e w' => (∃ b, e = .returned (.bool b) ∧ (b = false → fsz l ≤ 4000)) ∧ Below w.heap.size w w' := by
  unfold maxLen at hn
  have e1 : l.length = n := by have := hA.1; rw [fcells_len] at this; omega
  go_enter Tryz.func11, Tryz.ntmps11
  go_wp2
  go_loopw [3, 4] (fun z i wr => ∃ k y q : Nat, k ≤ n ∧ y ≤ 4000 ∧ Hid (y = fsz (l.take k)) ∧ z = .int .i64 y ∧ i = .int .i64 k ∧ wr = w.drewN q) (fun _ i _ => n - (intOf i).toNat)
  case atStart => exact ⟨0, 0, 0, Nat.zero_le _, Nat.zero_le _, rfl, rfl, rfl, rfl⟩
  case round =>
    obtain ⟨k, y, q, hk, hy, H, rfl, rfl, rfl⟩ := hrel
    by_cases hlt : k < n
    · obtain ⟨b1, o1, rfl, hb1, hx1⟩ := hA.2 (by omega)
      obtain ⟨x, hx, -⟩ := drop_list l k (by omega)
      obtain ⟨cx0, cx1⟩ := fcells_at _ _ _ hx
      have cx := hx1 (k * 2) _ cx0
      have cx' := hx1 (k * 2 + 1) _ cx1
      rw [← Nat.add_assoc] at cx'
      obtain ⟨l1, l2⟩ := hl x (List.mem_of_getElem? hx)
      have Ht := Lib.hid (fsz_one l k x hx)
      have s1 : IntKind.i64.wrap ((y : Int) + 5) = (y : Int) + 5 := IntWalk.i64_in _ ⟨by omega, by omega⟩
      have s2 : IntKind.i64.wrap ((y : Int) + 5 + (x.1.length : Int)) = (y : Int) + 5 + (x.1.length : Int) := IntWalk.i64_in _ ⟨by omega, by omega⟩
      have s3 : IntKind.i64.wrap ((y : Int) + 5 + (x.1.length : Int) + (x.2.length : Int)) = (y : Int) + 5 + (x.1.length : Int) + (x.2.length : Int) := IntWalk.i64_in _ ⟨by omega, by omega⟩
      clear hA hx1 cx0 cx1 hx
      go_wp2
      go_quiet (fail)
      go_wp2
      · go_ret
        exact ⟨⟨true, rfl, by simp⟩, by repeat (first | exact Below.refl _ _ | apply below_drewN')⟩
      · go_roundw
        case rel => exact ⟨k + 1, y + 5 + x.1.length + x.2.length, q + nq, by omega, by omega, Lib.hid (by rw [Ht.out, ← H.out]; omega), by go_num, by go_num, by simp [World.drewN]⟩
        case measure => simp [intOf]; omega
    · have hkn : k = n := by omega
      subst hkn
      have hall : l.take k = l := List.take_of_length_le (by omega)
      go_wp2
      go_ret
      exact ⟨⟨false, rfl, fun _ => by rw [← hall, ← H.out]; exact hy⟩, below_drewN' (Below.refl _ _) _⟩

theorem law_known26 (w : World) :
    Calls Tryz.prog 10 #[] w fun e w' => e = .returned (.bool true) ∧ Below w.heap.size w w' := by
  have kc := fun (w : World) (C : Array Value) (n c g : Nat) (hg : g = w.heap.size) => Go.Joins.run_convert_bytes_const_at (P := Tryz.prog) w 22 5 C n c g hg Tryz.underlying22 Tryz.underlying5
  go_enter Tryz.func10, Tryz.ntmps10
  go_wp2_with fail
  refine (cli_Get ⟨#[47, 97]⟩ _ 1 1 [([88], [121])] _ (Rd.new w _ rfl (fcells [([88], [121])]) 58 1 2 rfl |>.more (by simp)) (by decide) (by decide)).mono ?_
  rintro e w1 ⟨A1, n1, c1, rfl, ho1, L1⟩
  have L1' := stepW (allocW (Below.refl w.heap.size w) _) L1
  have hq : getL [47, 97] [([88], [121])] = [71, 69, 84, 32, 47, 97, 32, 72, 84, 84, 80, 47, 49, 46, 49, 13, 10, 72, 111, 115, 116, 58, 32, 117, 115, 104, 101, 114, 13, 10, 88, 58, 32, 121, 13, 10, 13, 10] := by decide
  have hr1 := ho1.rdS.2.2
  rw [show (⟨#[47, 97]⟩ : ByteArray).data.toList = [47, 97] from rfl, hq] at hr1
  clear ho1 hq L1
  go_wp2_with fail
  refine (same26_yes A1 n1 c1 _ 38 38 [71, 69, 84, 32, 47, 97, 32, 72, 84, 84, 80, 47, 49, 46, 49, 13, 10, 72, 111, 115, 116, 58, 32, 117, 115, 104, 101, 114, 13, 10, 88, 58, 32, 121, 13, 10, 13, 10] _ ((hr1.alloc (Nat.le_refl _) _).more (by simp)) ((Rd.newM w1 _ rfl [.int .u8 71, .int .u8 69, .int .u8 84, .int .u8 32, .int .u8 47, .int .u8 97, .int .u8 32, .int .u8 72, .int .u8 84, .int .u8 84, .int .u8 80, .int .u8 47, .int .u8 49, .int .u8 46, .int .u8 49, .int .u8 13, .int .u8 10, .int .u8 72, .int .u8 111, .int .u8 115, .int .u8 116, .int .u8 58, .int .u8 32, .int .u8 117, .int .u8 115, .int .u8 104, .int .u8 101, .int .u8 114, .int .u8 13, .int .u8 10, .int .u8 88, .int .u8 58, .int .u8 32, .int .u8 121, .int .u8 13, .int .u8 10, .int .u8 13, .int .u8 10] 5 _ 38 1 rfl).more (by simp)) (by decide)).mono ?_
  rintro e w2 ⟨rfl, L2⟩
  have L2' := stepW (allocW L1' _) L2
  go_wp2
  go_ret
  exact ⟨rfl, L2'⟩

theorem bytes_rd {w w' : World} {l : Bs} {A : Option Addr} {n c : Nat} (ho : Own w' w.heap.size 5 1 (.slice A n c) n (l.map bv)) : Rd w' w'.heap.size 1 A n (l.map bv) := ho.rdS.2.2

end Go.Proofs.YtmjekdnfkgalbaaGreatDoor
