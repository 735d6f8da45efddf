/- client: requests as bytes. -/
import Derived.Test.YtbkakoboaophoaaGreatDoorFPl
import Derived.Test.YtbkakoboaophoaaGreatDoorFmt
namespace Go.Proofs.YtbkakoboaophoaaGreatDoor
open Go.RowKit
set_option maxRecDepth 100000
set_option maxHeartbeats 2000000

def hdrL (f : Fd) : Bs := f.1 ++ [58, 32] ++ f.2 ++ [13, 10]
def hdrsL (l : List Fd) : Bs := (l.map hdrL).flatten
def cheadL (first : Bs) (l : List Fd) : Bs := first ++ [13, 10] ++ hdrsL l ++ [13, 10]
def fsz : List Fd → Nat
  | [] => 0
  | f :: l => 5 + f.1.length + f.2.length + fsz l
theorem fsz_app (a b : List Fd) : fsz (a ++ b) = fsz a + fsz b := by
  induction a with
  | nil => simp [fsz]
  | cons f a ih => simp only [List.cons_append, fsz, ih]; omega
theorem fsz_len (l : List Fd) : l.length * 5 ≤ fsz l := by
  induction l with
  | nil => simp
  | cons f l ih => simp only [List.length_cons, fsz]; omega
theorem hdrsL_len (l : List Fd) : (hdrsL l).length ≤ fsz l := by
  induction l with
  | nil => simp [hdrsL]
  | cons f l ih => simp only [hdrsL, List.map_cons, List.flatten_cons, List.length_append, fsz, hdrL, List.length_cons, List.length_nil] at ih ⊢; omega
theorem hdrsL_app (a b : List Fd) : hdrsL (a ++ b) = hdrsL a ++ hdrsL b := by simp [hdrsL]
theorem take_at {α : Type} (l : List α) (k : Nat) (x : α) (h : l[k]? = some x) : l.take (k + 1) = l.take k ++ [x] := by
  rw [List.take_add_one, h]; rfl
theorem fsz_take (l : List Fd) (k : Nat) : fsz (l.take k) ≤ fsz l := by
  conv => rhs; rw [← List.take_append_drop k l, fsz_app]
  omega
theorem fsz_mem (l : List Fd) (f : Fd) (h : f ∈ l) : f.1.length + f.2.length ≤ fsz l := by
  induction l with
  | nil => cases h
  | cons g l ih =>
    simp only [fsz]
    rcases List.mem_cons.1 h with rfl | h
    · omega
    · have := ih h; omega

/-- Bytes that a call made. -/
def CBytesPost (w : World) (l : Bs) (e : Ending) (w' : World) : Prop :=
  ∃ A n c, e = .returned (.slice A n c) ∧ Own w' w.heap.size 5 1 (.slice A n c) n (l.map bv) ∧ Below w.heap.size w w'

theorem size_mkC (l : Bs) : (⟨l.toArray⟩ : ByteArray).size = l.length := by show l.toArray.size = l.length; simp

theorem cli_head (first : ByteArray) (A : Option Addr) (n cp : Nat) (l : List Fd) (w : World) (hA : Rd w w.heap.size 2 A n (fcells l)) (hf : first.size ≤ 10000) (hl : fsz l ≤ 10000) :
    Calls Tryz.prog 52 #[.string first, .slice A n cp] w (CBytesPost w (cheadL first.data.toList l)) := by
  obtain ⟨i0, hi, hz0, hz1, hz2⟩ := info_parts info_u8
  have e1 : l.length = n := by have := hA.1; rw [fcells_len] at this; omega
  have hn5 := fsz_len l
  have hf2 : first.data.toList.length = first.size := len_data first
  have hs1 : (first ++ ⟨#[13, 10]⟩ : ByteArray).size = first.size + 2 := by rw [ByteArray.size_append]; rfl
  go_enter Tryz.func52, Tryz.ntmps52
  go_wp2_with (refine wpList_toBytes _ rfl (.tmp 9) 9 22 rfl 5 w.heap.size (first ++ ⟨#[13, 10]⟩ : ByteArray) rfl Tryz.underlying9 Tryz.underlying22 Tryz.underlying5 (by rw [hs1]; unfold maxLen; omega) (Nat.le_refl _) ?_
               intro cap w1 hcap ho1 hg1 hz1')
  have L1 := below_of_none hg1
  have ho1' : Own w1 w.heap.size 5 1 (.slice (some ⟨w.heap.size, 0, none⟩) (first.size + 2) cap) (first.size + 2) ((first.data.toList ++ [13, 10] ++ hdrsL (l.take 0)).map bv) := by
    have e : first.data.toList ++ [13, 10] ++ hdrsL (l.take 0) = (first ++ ⟨#[13, 10]⟩ : ByteArray).data.toList := by rw [app_data]; simp [hdrsL]
    rw [e, ← hs1]; exact ho1
  clear ho1 hg1 hz1' hcap
  go_loopw [5, 13] (fun v i wr => ∃ (k : Nat) (A1 : Option Addr) (m c1 : Nat), k ≤ n ∧ i = .int .i64 k ∧ v = .slice A1 m c1 ∧ Own wr w.heap.size 5 1 (.slice A1 m c1) m ((first.data.toList ++ [13, 10] ++ hdrsL (l.take k)).map bv) ∧ Below w.heap.size w wr) (fun _ i _ => n - (intOf i).toNat)
  case atStart => exact ⟨0, _, _, _, Nat.zero_le _, rfl, rfl, ho1', L1⟩
  case round =>
    obtain ⟨k, A1, m, c1, hk, rfl, rfl, ho, hb⟩ := hrel
    have hm : m ≤ 20002 := by
      have h1 := ho.1
      have h2 := hdrsL_len (l.take k)
      have h3 := fsz_take l k
      simp at h1
      omega
    have S1 := hb.size
    by_cases hlt : k < n
    · obtain ⟨b1, o1, rfl, hb1, hx1⟩ := hA.2 (by omega)
      obtain ⟨x, hx, -⟩ := drop_list l k (by omega)
      obtain ⟨cx0, cx1⟩ := fcells_at _ _ _ hx
      have hw := fun p hp => hb.cell (p := p) hp
      have cx := (hw ⟨b1, o1 + k * 2, none⟩ hb1).trans (hx1 (k * 2) _ cx0)
      have cx' := (hw ⟨b1, o1 + (k * 2 + 1), none⟩ hb1).trans (hx1 (k * 2 + 1) _ cx1)
      rw [← Nat.add_assoc] at cx'
      have hfm := fsz_mem l x (List.mem_of_getElem? hx)
      have Ht := Lib.hid (take_at l k x hx)
      clear hx1 cx0 cx1 hx hw
      go_wp2_with fail
      refine (asc_Join _ 4 4 (wr.heap.size + 2) [⟨x.1.toArray⟩, ⟨#[58, 32]⟩, ⟨x.2.toArray⟩, ⟨#[13, 10]⟩] _ (by simp) (Rd.new _ _ (by simp) [.string ⟨x.1.toArray⟩, .string ⟨#[58, 32]⟩, .string ⟨x.2.toArray⟩, .string ⟨#[13, 10]⟩] 9 4 1 rfl) (by decide) (by simp; omega) (by decide)).mono ?_
      rintro e w2 ⟨rfl, L2⟩
      have ho2 := ((ho.alloc (.cells #[sv x.1, sv x.2] 25)).alloc (.cells #[.string ⟨x.1.toArray⟩, .string ⟨#[58, 32]⟩, .string ⟨x.2.toArray⟩, .string ⟨#[13, 10]⟩] 9)).belowW L2
      have hb2 := stepW (allocW (allocW hb (.cells #[sv x.1, sv x.2] 25)) (.cells #[.string ⟨x.1.toArray⟩, .string ⟨#[58, 32]⟩, .string ⟨x.2.toArray⟩, .string ⟨#[13, 10]⟩] 9)) L2
      have hlx : (List.map (fun x => x.data.toList) [(⟨x.1.toArray⟩ : ByteArray), ⟨#[58, 32]⟩, ⟨x.2.toArray⟩, ⟨#[13, 10]⟩]).flatten = hdrL x := by simp [hdrL]
      rw [hlx]
      have hlen : (hdrL x).length ≤ 10004 := by simp [hdrL]; omega
      clear L2 ho hb
      go_wp2_with (at_builtin
                   go_must (
                     refine wpList_append_Own _ rfl (.tmp 17) (.tmp 23) 22 9 rfl w.heap.size 5 i0 _ 1 1 Tryz.underlying22 (.inr Tryz.underlying9) hi hz0 hz1 hz2 rfl (by decide) (.slice A1 m c1) _ _ rfl ho2 _ (hdrL x).length ((hdrL x).map bv) rfl (Src.of_string _) (by unfold maxLen; omega) (by omega) hb2.size ?_
                     intro v3 w3 ho3 hg3 hat3
                     obtain ⟨A3, c3, hv3, n3, m3, r3, q3⟩ := ho3.rd
                     subst hv3))
      go_roundw
      case rel =>
        refine ⟨k + 1, A3, m + (hdrL x).length, c3, by omega, by go_num, rfl, ?_, growW hb2 hg3 (fun j hj => (ho2.lt j hj).1)⟩
        rw [Ht.out, hdrsL_app]
        simpa [hdrsL] using ho3
      case measure => simp [intOf]; omega
    · have hkn : k = n := by omega
      subst hkn
      have hall : l.take k = l := List.take_of_length_le (by omega)
      rw [hall] at ho
      go_wp2_with (at_builtin
                   go_must (
                     refine wpList_append_Own _ rfl (.tmp 26) (.const (.string ⟨#[13, 10]⟩)) 22 9 rfl w.heap.size 5 i0 _ 1 1 Tryz.underlying22 (.inr Tryz.underlying9) hi hz0 hz1 hz2 rfl (by decide) (.slice A1 m c1) _ _ rfl ho _ 2 ([13, 10].map bv) rfl (Src.of_string [13, 10]) (by unfold maxLen; omega) (by omega) hb.size ?_
                     intro v3 w3 ho3 hg3 hat3
                     obtain ⟨A3, c3, hv3, n3, m3, r3, q3⟩ := ho3.rd
                     subst hv3))
      go_ret
      refine ⟨A3, m + 2, c3, rfl, ?_, growW hb hg3 (fun j hj => (ho.lt j hj).1)⟩
      simpa [cheadL] using ho3

theorem Own.litC (w : World) (g : Nat) (hg : g = w.heap.size) (base : Nat) (hb : base ≤ g) (e : TypeId) (size n : Nat) (cs : List Value) (hs : cs.length = n * size) (hn : n ≤ maxLen) : Own (w.alloc (.cells cs.toArray e)) base e size (.slice (some ⟨g, 0, none⟩) n n) n cs :=
  ⟨hs, .inr ⟨g, n, cs.toArray, (0, 0), rfl, hb, by rw [hg]; exact heap_alloc_new w _, .inl (Nat.le_refl _), Nat.le_refl _, hn, by simpa using hs, by rw [List.take_of_length_le (by simp; omega)]⟩⟩

theorem ref_lines (A : Option Addr) (n cp : Nat) (l : List Fd) (w : World) (hA : Rd w w.heap.size 2 A n (fcells l)) (hl : fsz l ≤ 10000) :
    Calls Tryz.prog 71 #[.slice A n cp] w fun e w' => e = .returned (sv (hdrsL l ++ [13, 10])) ∧ Below w.heap.size w w' := by
  have e1 : l.length = n := by have := hA.1; rw [fcells_len] at this; omega
  have hn5 := fsz_len l
  go_enter Tryz.func71, Tryz.ntmps71
  go_wp2
  go_loopw [3, 4] (fun v i wr => ∃ (k q : Nat) (t : ByteArray), k ≤ n ∧ i = .int .i64 k ∧ v = .string t ∧ Hid (t.data.toList = hdrsL (l.take k)) ∧ wr = w.drewN q) (fun _ i _ => n - (intOf i).toNat)
  case atStart => exact ⟨0, 0, ⟨#[]⟩, Nat.zero_le _, rfl, rfl, by simp [hdrsL]; exact Lib.hid trivial, rfl⟩
  case round =>
    obtain ⟨k, q, t, hk, rfl, rfl, H, rfl⟩ := hrel
    have hts : t.size ≤ 10000 := by
      have h2 := hdrsL_len (l.take k)
      have h3 := fsz_take l k
      rw [← len_data, H.out]; omega
    by_cases hlt : k < n
    · obtain ⟨b1, o1, rfl, hb1, hx1⟩ := hA.2 (by omega)
      obtain ⟨x, hx, -⟩ := drop_list l k (by omega)
      obtain ⟨cx0, cx1⟩ := fcells_at _ _ _ hx
      have cx := hx1 (k * 2) _ cx0
      have cx' := hx1 (k * 2 + 1) _ cx1
      rw [← Nat.add_assoc] at cx'
      have hfm := fsz_mem l x (List.mem_of_getElem? hx)
      have Ht := Lib.hid (take_at l k x hx)
      clear hx1 cx0 cx1 hx
      go_wp2
      go_quiet (fail)
      go_wp2
      go_roundw
      case rel => exact ⟨k + 1, q + nq, _, by omega, by go_num, rfl, by rw [Ht.out, hdrsL_app, ← H.out]; simp [hdrsL, hdrL]; exact Lib.hid trivial, by simp [World.drewN]⟩
      case measure => simp [intOf]; omega
    · have hkn : k = n := by omega
      subst hkn
      have hall : l.take k = l := List.take_of_length_le (by omega)
      rw [hall] at H
      go_wp2
      go_ret
      exact ⟨retStr (by rw [app_data, H.out]), below_drewN' (Below.refl _ _) _⟩

def hostF : Fd := ([72, 111, 115, 116], [117, 115, 104, 101, 114])
def clF (n : Nat) : Fd := ([67, 111, 110, 116, 101, 110, 116, 45, 76, 101, 110, 103, 116, 104], digs 10 n)
def getL (p : Bs) (l : List Fd) : Bs := cheadL ([71, 69, 84, 32] ++ p ++ [32, 72, 84, 84, 80, 47, 49, 46, 49]) (hostF :: l)
def postL (p b : Bs) (l : List Fd) : Bs := cheadL ([80, 79, 83, 84, 32] ++ p ++ [32, 72, 84, 84, 80, 47, 49, 46, 49]) (hostF :: clF b.length :: l) ++ b
theorem getL_len (p : Bs) (l : List Fd) : (getL p l).length ≤ p.length + fsz l + 100 := by
  have h := hdrsL_len (hostF :: l)
  have e : fsz (hostF :: l) = 14 + fsz l := rfl
  unfold getL cheadL
  simp only [List.length_append, List.length_cons, List.length_nil]
  omega
theorem postL_len (p b : Bs) (l : List Fd) (hb : b.length ≤ 9223372036854775807) : (postL p b l).length ≤ p.length + b.length + fsz l + 200 := by
  have h := hdrsL_len (hostF :: clF b.length :: l)
  have e : fsz (hostF :: clF b.length :: l) = 14 + (5 + 14 + (digs 10 b.length).length + fsz l) := rfl
  have := digs10_len b.length hb
  unfold postL cheadL
  simp only [List.length_append, List.length_cons, List.length_nil]
  omega

theorem cli_Get (path : ByteArray) (A : Option Addr) (n cp : Nat) (l : List Fd) (w : World) (hA : Rd w w.heap.size 2 A n (fcells l)) (hp : path.size ≤ 4000) (hl : fsz l ≤ 4000) :
    Calls Tryz.prog 59 #[.string path, .slice A n cp] w (CBytesPost w (getL path.data.toList l)) := by
  obtain ⟨i0, hi, hz0, hz1, hz2⟩ := info_parts info_fd
  have e1 : l.length = n := by have := hA.1; rw [fcells_len] at this; omega
  have hn5 := fsz_len l
  go_enter Tryz.func59, Tryz.ntmps59
  go_wp2_with fail
  refine (asc_Join _ 3 3 (w.heap.size + 1) [⟨#[71, 69, 84, 32]⟩, path, ⟨#[32, 72, 84, 84, 80, 47, 49, 46, 49]⟩] _ (by simp) (Rd.new _ _ (by simp) [.string ⟨#[71, 69, 84, 32]⟩, .string path, .string ⟨#[32, 72, 84, 84, 80, 47, 49, 46, 49]⟩] 9 3 1 rfl) (by decide) (by simp; omega) (by decide)).mono ?_
  rintro e w2 ⟨rfl, L2⟩
  have L2' := stepW (allocW (Below.refl w.heap.size w) _) L2
  have hA2 := hA.below L2'
  clear L2
  go_wp2_with (at_builtin
               go_must (
                 refine wpList_append_Own _ rfl (.tmp 9) (.tmp 10) 31 31 rfl w.heap.size 25 i0 _ 2 32 Tryz.underlying31 (.inl Tryz.underlying31) hi hz0 hz1 hz2 rfl (by decide) (.slice (some ⟨w2.heap.size, 0, none⟩) 1 1) 1 (fcells [hostF]) rfl (Own.litC _ _ rfl _ L2'.size _ 2 1 (fcells [hostF]) rfl (by decide)) _ n (fcells l) rfl (Src.of_rd (hA2.alloc L2'.size _) (fcells_one _)) (by unfold maxLen; omega) (by omega) (by have := L2'.size; simp; omega) ?_
                 intro v3 w3 ho3 hg3 hat3
                 obtain ⟨A3, c3, hv3, n3, m3, r3, q3⟩ := ho3.rd
                 subst hv3))
  have L3 : Below w.heap.size w w3 := growW (allocW L2' _) hg3 (fun j hj => by cases hj; exact L2'.size)
  rw [← fcells_app] at r3
  have hfz : fsz ([hostF] ++ l) ≤ 10000 := by rw [fsz_app]; simp [fsz, hostF]; omega
  clear hg3 hat3 ho3
  go_wp2_with fail
  refine (cli_head ⟨(71 :: 69 :: 84 :: 32 :: (path.data.toList ++ [32, 72, 84, 84, 80, 47, 49, 46, 49])).toArray⟩ A3 (1 + n) c3 ([hostF] ++ l) w3 r3 (by rw [size_mkC]; simp only [List.length_cons, List.length_append, List.length_nil, len_data]; omega) hfz).mono ?_
  rintro e w4 ⟨A4, n4, c4, rfl, ho4, L4⟩
  have e5 : cheadL ([71, 69, 84, 32] ++ path.data.toList ++ [32, 72, 84, 84, 80, 47, 49, 46, 49]) ([hostF] ++ l) = getL path.data.toList l := rfl
  rw [List.toList_toArray, show (71 :: 69 :: 84 :: 32 :: (path.data.toList ++ [32, 72, 84, 84, 80, 47, 49, 46, 49]) : Bs) = [71, 69, 84, 32] ++ path.data.toList ++ [32, 72, 84, 84, 80, 47, 49, 46, 49] from rfl, e5] at ho4
  clear e5
  go_wp2
  go_ret
  exact ⟨A4, n4, c4, rfl, ho4.base_le L3.size, stepW L3 L4⟩

theorem cli_Post (path : ByteArray) (A1 : Option Addr) (n1 c1 : Nat) (b : Bs) (A : Option Addr) (n cp : Nat) (l : List Fd) (w : World) (hB : Rd w w.heap.size 1 A1 n1 (b.map bv)) (hA : Rd w w.heap.size 2 A n (fcells l)) (hp : path.size ≤ 4000) (hb4 : n1 ≤ 4000) (hl : fsz l ≤ 4000) (ht : Tab10 w) :
    Calls Tryz.prog 16 #[.string path, .slice A1 n1 c1, .slice A n cp] w (CBytesPost w (postL path.data.toList b l)) := by
  obtain ⟨i0, hi, hz0, hz1, hz2⟩ := info_parts info_fd
  obtain ⟨i8, hi8, hy0, hy1, hy2⟩ := info_parts info_u8
  have e1 : l.length = n := by have := hA.1; rw [fcells_len] at this; omega
  have eb : b.length = n1 := by have := hB.1; simpa using this
  have hn5 := fsz_len l
  have hd : (digs 10 n1).length ≤ 19 := digs10_len n1 (by omega)
  go_enter Tryz.func16, Tryz.ntmps16
  go_wp2_with fail
  refine (asc_Dec (n1 : Int) w (by omega) (by omega) ht).mono ?_
  rintro e w1 ⟨rfl, L1⟩
  rw [Int.toNat_natCast]
  go_wp2_with fail
  refine (asc_Join _ 3 3 (w1.heap.size + 2) [⟨#[80, 79, 83, 84, 32]⟩, path, ⟨#[32, 72, 84, 84, 80, 47, 49, 46, 49]⟩] _ (by simp) (Rd.new _ _ (by simp) [.string ⟨#[80, 79, 83, 84, 32]⟩, .string path, .string ⟨#[32, 72, 84, 84, 80, 47, 49, 46, 49]⟩] 9 3 1 rfl) (by decide) (by simp; omega) (by decide)).mono ?_
  rintro e w2 ⟨rfl, L2⟩
  have L2' := stepW (allocW (allocW L1 _) _) L2
  have S12 : w1.heap.size + 2 ≤ w2.heap.size := by have := L2.size; simpa using this
  have hA2 := hA.below L2'
  have hB2 := hB.below L2'
  have ho2 : Own w2 w.heap.size 25 2 (.slice (some ⟨w1.heap.size, 0, none⟩) 2 2) 2 (fcells [hostF, clF n1]) := ((Own.litC w1 w1.heap.size rfl w.heap.size L1.size 25 2 2 (fcells [hostF, clF n1]) rfl (by decide)).alloc _).belowW L2
  clear L2
  go_wp2_with (at_builtin
               go_must (
                 refine wpList_append_Own _ rfl (.tmp 17) (.tmp 18) 31 31 rfl w.heap.size 25 i0 _ 2 32 Tryz.underlying31 (.inl Tryz.underlying31) hi hz0 hz1 hz2 rfl (by decide) (.slice (some ⟨w1.heap.size, 0, none⟩) 2 2) 2 (fcells [hostF, clF n1]) rfl ho2 _ n (fcells l) rfl (Src.of_rd hA2 (fcells_one _)) (by unfold maxLen; omega) (by omega) L2'.size ?_
                 intro v3 w3 ho3 hg3 hat3
                 obtain ⟨A3, c3, hv3, n3, m3, r3, q3⟩ := ho3.rd
                 subst hv3))
  have L3 : Below w.heap.size w w3 := growW L2' hg3 (fun j hj => by cases hj; exact L1.size)
  rw [← fcells_app] at r3
  have hfz : fsz ([hostF, clF n1] ++ l) ≤ 10000 := by
    rw [fsz_app]
    have : fsz [hostF, clF n1] = 14 + (5 + 14 + (digs 10 n1).length + 0) := rfl
    omega
  have hB3 : Rd w3 w.heap.size 1 A1 n1 (b.map bv) := hB.below L3
  clear hg3 hat3 ho3 ho2 hA2 hB2
  go_wp2_with fail
  refine (cli_head ⟨(80 :: 79 :: 83 :: 84 :: 32 :: (path.data.toList ++ [32, 72, 84, 84, 80, 47, 49, 46, 49])).toArray⟩ A3 (2 + n) c3 ([hostF, clF n1] ++ l) w3 r3 (by rw [size_mkC]; simp only [List.length_cons, List.length_append, List.length_nil, len_data]; omega) hfz).mono ?_
  rintro e w4 ⟨A4, n4, c4, rfl, ho4, L4⟩
  obtain ⟨hd4, hh4⟩ : ∃ hd4, hd4 = cheadL ([80, 79, 83, 84, 32] ++ path.data.toList ++ [32, 72, 84, 84, 80, 47, 49, 46, 49]) ([hostF, clF n1] ++ l) := ⟨_, rfl⟩
  rw [List.toList_toArray, show (80 :: 79 :: 83 :: 84 :: 32 :: (path.data.toList ++ [32, 72, 84, 84, 80, 47, 49, 46, 49]) : Bs) = [80, 79, 83, 84, 32] ++ path.data.toList ++ [32, 72, 84, 84, 80, 47, 49, 46, 49] from rfl, ← hh4] at ho4
  have hn4 : n4 ≤ 20000 := by
    have h1 := ho4.1
    have h2 := hdrsL_len ([hostF, clF n1] ++ l)
    have h3 := len_data path
    simp only [List.length_map, Nat.mul_one] at h1
    rw [← h1, hh4]
    unfold cheadL
    simp only [List.length_append, List.length_cons, List.length_nil] at h2 ⊢
    omega
  have hpo : postL path.data.toList b l = hd4 ++ b := by rw [hh4, postL, eb]; rfl
  have L4' := stepW L3 L4
  have hB4 : Rd w4 w.heap.size 1 A1 n1 (b.map bv) := hB.below L4'
  clear hh4 hB3
  go_wp2_with (at_builtin
               go_must (
                 refine wpList_append_Own _ rfl (.tmp 20) (.tmp 21) 22 22 rfl w.heap.size 5 i8 _ 1 1 Tryz.underlying22 (.inl Tryz.underlying22) hi8 hy0 hy1 hy2 rfl (by decide) (.slice A4 n4 c4) n4 _ rfl (ho4.base_le L3.size) _ n1 (b.map bv) rfl (Src.of_rd hB4 (by intro u hu; obtain ⟨x, -, rfl⟩ := List.mem_map.1 hu; rfl)) (by unfold maxLen; omega) (by omega) L4'.size ?_
                 intro v5 w5 ho5 hg5 hat5
                 obtain ⟨A5, c5, hv5, n5, m5, r5, q5⟩ := ho5.rd
                 subst hv5))
  go_ret
  refine ⟨A5, n4 + n1, c5, rfl, ?_, growW L4' hg5 (fun j hj => ((ho4.base_le L3.size).lt j hj).1)⟩
  rw [hpo, List.map_append]; exact ho5
end Go.Proofs.YtbkakoboaophoaaGreatDoor
