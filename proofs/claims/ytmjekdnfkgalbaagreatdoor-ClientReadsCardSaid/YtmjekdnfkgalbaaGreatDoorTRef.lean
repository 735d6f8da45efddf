/- usherref11: Host, Decode. usherref11.Decode. usherref11.Clean. usherref11: allowed, origin. -/
import Derived.Test.YtmjekdnfkgalbaaGreatDoorApp
namespace Go.Proofs.YtmjekdnfkgalbaaGreatDoor
open Go.RowKit
set_option maxRecDepth 100000
set_option maxHeartbeats 1000000

theorem num_R (s : ByteArray) (w : World) (hs : s.size ≤ maxLen) :
    Calls Tryz.prog 71 #[.string s] w fun e w' => e = .returned (.tuple #[.int .i64 ((numO s.data.toList).getD 0), .bool (numO s.data.toList).isSome]) ∧ w = w' := ref_Num s w hs
theorem hostB_cases (b : UInt8) : hostB b = (alnumB b.toNat || ((b.toNat : Int) == 45) || ((b.toNat : Int) == 46)) := by
  have : ∀ x : Fin 256, hostB (UInt8.ofNat x.val) = (alnumB (UInt8.ofNat x.val).toNat || (((UInt8.ofNat x.val).toNat : Int) == 45) || (((UInt8.ofNat x.val).toNat : Int) == 46)) := by decide +kernel
  have h := this ⟨b.toNat, b.toNat_lt⟩
  simpa using h
end Go.Proofs.YtmjekdnfkgalbaaGreatDoor
namespace Go.Proofs.YtmjekdnfkgalbaaGreatDoor
open Go.RowKit
set_option maxRecDepth 100000
set_option maxHeartbeats 1000000

theorem quiet_left {P : Program} {f : FuncId} {args : Array Value} {w : World} {n : Nat} {v : Value}
    (h : Calls P f args (w.drewN n) fun e w' => e = .returned v ∧ w.drewN n = w') : Calls P f args (w.drewN n) fun e w'' => e = .returned v ∧ ∃ m, w'' = w.drewN m :=
  h.mono fun _ _ ⟨he, hm⟩ => ⟨he, n, hm.symm⟩
theorem or4 (a b : Int) (a0 : 0 ≤ a) (ha : a ≤ 15) (b0 : 0 ≤ b) (hb : b ≤ 15) : bits BinOp.or IntKind.i64 (a * 16) b = a * 16 + b := by
  have : ∀ x y : Fin 16, bits BinOp.or IntKind.i64 ((x.val : Int) * 16) (y.val : Int) = (x.val : Int) * 16 + y.val := by decide +kernel
  have h := this ⟨a.toNat, by omega⟩ ⟨b.toNat, by omega⟩
  simp only [Int.toNat_of_nonneg a0, Int.toNat_of_nonneg b0] at h
  exact h
end Go.Proofs.YtmjekdnfkgalbaaGreatDoor
namespace Go.Proofs.YtmjekdnfkgalbaaGreatDoor
open Go.RowKit
set_option maxRecDepth 100000
set_option maxHeartbeats 2000000

theorem Own.emp (w : World) (g : Nat) (hg : g = w.heap.size) (base : Nat) (hb : base ≤ w.heap.size) (e : TypeId) (size : Nat) : Own (w.alloc (.cells #[] e)) base e size (.slice (some ⟨g, 0, none⟩) 0 0) 0 [] :=
  ⟨by simp, .inr ⟨g, 0, #[], (0, 0), rfl, by omega, hg ▸ heap_alloc_new w _, .inl (Nat.le_refl _), Nat.le_refl _, Nat.zero_le _, by simp, by simp⟩⟩
/-- The pieces from f on. -/
def tailP (l : Bs) (f : Nat) : List Bs := if f ≤ l.length then splitL 47 (l.drop f) else []
theorem tailP_step (l : Bs) (f i : Nat) (hf : f ≤ i) (hi : i ≤ l.length) (hn : ∀ b ∈ (l.drop f).take (i - f), b ≠ 47) (hc : i = l.length ∨ l[i]? = some 47) : tailP l f = (l.drop f).take (i - f) :: tailP l (i + 1) := by
  rw [tailP, if_pos (by omega)]
  rcases hc with h | h
  · rw [tailP, if_neg (by omega)]
    have : (l.drop f).take (i - f) = l.drop f := List.take_of_length_le (by rw [List.length_drop]; omega)
    rw [this] at hn ⊢
    exact splitL_free 47 _ hn
  · have hlt : i < l.length := by
      rcases Nat.lt_or_ge i l.length with h1 | h1
      · exact h1
      · rw [List.getElem?_eq_none h1] at h; cases h
    rw [tailP, if_pos (by omega)]
    have e : l.drop f = (l.drop f).take (i - f) ++ 47 :: l.drop (i + 1) := by
      have h1 := List.take_append_drop (i - f) (l.drop f)
      rw [List.drop_drop, show f + (i - f) = i by omega, List.drop_eq_getElem_cons hlt] at h1
      rw [List.getElem?_eq_getElem hlt] at h
      rw [Option.some.inj h] at h1
      exact h1.symm
    generalize (l.drop f).take (i - f) = t at e hn
    rw [e]
    exact splitL_append 47 t _ hn
theorem nosl_step (l : Bs) (f i : Nat) (c : UInt8) (hf : f ≤ i) (h : l[i]? = some c) (hc : c ≠ 47) (hn : ∀ b ∈ (l.drop f).take (i - f), b ≠ 47) : ∀ b ∈ (l.drop f).take (i + 1 - f), b ≠ 47 := by
  intro b hb
  rw [show i + 1 - f = (i - f) + 1 by omega, List.take_add_one, List.getElem?_drop, show f + (i - f) = i by omega, h] at hb
  rcases List.mem_append.1 hb with hb | hb
  · exact hn b hb
  · have : b = c := by simpa using hb
    exact this ▸ hc
theorem tailP_zero (l : Bs) : tailP l 0 = splitL 47 l := by simp [tailP]
theorem tailP_end (l : Bs) : tailP l (l.length + 1) = [] := by rw [tailP, if_neg (by omega)]
theorem piece (S : ByteArray) (l : Bs) (hS : S.data.toList = l ++ [47]) (f i : Nat) (hi : i ≤ l.length) : S.extract f i = ⟨((l.drop f).take (i - f)).toArray⟩ := by
  apply str_ext
  rw [ext_data, hS]
  show _ = (l.drop f).take (i - f)
  rcases Nat.le_total f l.length with h | h
  · rw [List.drop_append_of_le_length h, List.take_append_of_le_length (by rw [List.length_drop]; omega)]
  · rw [show i - f = 0 by omega]; simp

def foldP (P : List Bs) (ps : List Bs) : Option (List Bs) := P.foldl stepP (some ps)
theorem foldP_cons (p : Bs) (P ps : List Bs) : foldP (p :: P) ps = (stepP (some ps) p).bind (foldP P) := by
  unfold foldP
  rw [List.foldl_cons]
  cases stepP (some ps) p with
  | none => exact stepP_none P
  | some q => rfl
theorem stepP_skip (ps : List Bs) (p : Bs) (h : p = [] ∨ p = [46]) : stepP (some ps) p = some ps := by rw [stepP, Option.bind_some, if_pos h]
theorem stepP_up0 : stepP (some []) [46, 46] = none := by rw [stepP, Option.bind_some, if_neg (by simp), if_pos rfl, if_pos rfl]
theorem stepP_up (ps : List Bs) (h : ps ≠ []) : stepP (some ps) [46, 46] = some ps.dropLast := by rw [stepP, Option.bind_some, if_neg (by simp), if_pos rfl, if_neg h]
theorem stepP_add (ps : List Bs) (p : Bs) (h1 : p ≠ []) (h2 : p ≠ [46]) (h3 : p ≠ [46, 46]) : stepP (some ps) p = some (ps ++ [p]) := by rw [stepP, Option.bind_some, if_neg (by simp [h1, h2]), if_neg h3]

end Go.Proofs.YtmjekdnfkgalbaaGreatDoor
namespace Go.Proofs.YtmjekdnfkgalbaaGreatDoor
open Go.RowKit
set_option maxRecDepth 100000
set_option maxHeartbeats 2000000

theorem rSame (a b : ByteArray) (w : World) (ha : a.size ≤ 140737488355328) (hb : b.size ≤ 140737488355328) :
    Calls Tryz.prog 84 #[.string a, .string b] w fun e w' => e = .returned (.bool (lowL a.data.toList == lowL b.data.toList)) ∧ Below w.heap.size w w' := by
  go_enter Tryz.func84, Tryz.ntmps84
  go_wp2_with fail
  refine (ref_LowerS a _ ha).mono ?_
  rintro e w1 ⟨rfl, h1⟩
  go_wp2_with fail
  refine (ref_LowerS b _ hb).mono ?_
  rintro e w2 ⟨rfl, h2⟩
  go_wp2
  go_ret
  exact ⟨rfl, h1.trans (h2.mono h1.size)⟩
/-- What origin says. -/
def OrgPost (l : Bs) (w : World) (e : Ending) (w' : World) : Prop :=
  (originL l = none → ∃ a b, e = .returned (.tuple #[a, b, .bool false])) ∧ (∀ p, originL l = some p → e = .returned (.tuple #[sv p, sv (sndB 63 l), .bool true])) ∧ Below w.heap.size w w'
theorem orgPost_none {l : Bs} {w w' : World} {a b : Value} (h : originL l = none) (L : Below w.heap.size w w') : OrgPost l w (.returned (.tuple #[a, b, .bool false])) w' :=
  ⟨fun _ => ⟨a, b, rfl⟩, fun p hp => (by rw [h] at hp; cases hp), L⟩
theorem orgPost_some {l p q : Bs} {w w' : World} (h : originL l = some p) (hq : q = sndB 63 l) (L : Below w.heap.size w w') : OrgPost l w (.returned (.tuple #[sv p, sv q, .bool true])) w' :=
  ⟨fun hn => (by rw [h] at hn; cases hn), fun p' hp => (by rw [h] at hp; cases hp; rw [hq]), L⟩
theorem fstB_step (c : UInt8) (l : Bs) (k : Nat) (b : UInt8) (r : Bs) (hb : l.drop k = b :: r) (hr : r = l.drop (k + 1)) (hk : k < l.length) (hc : b ≠ c) (h1 : fstB c l = l.take k ++ fstB c (l.drop k)) (h2 : sndB c l = sndB c (l.drop k)) :
    fstB c l = l.take (k + 1) ++ fstB c (l.drop (k + 1)) ∧ sndB c l = sndB c (l.drop (k + 1)) := by
  have hn : (b != c) = true := by simpa using hc
  subst hr
  refine ⟨?_, ?_⟩
  · rw [h1, hb]
    have e1 : l[k] = b := by
      have := List.drop_eq_getElem_cons hk
      rw [hb] at this
      exact (List.cons.inj this).1.symm
    rw [List.take_succ_eq_append_getElem hk, e1]
    show _ ++ fstB c (b :: _) = _
    rw [show fstB c (b :: l.drop (k + 1)) = b :: fstB c (l.drop (k + 1)) by simp [fstB, hn]]
    simp
  · rw [h2, hb]
    show sndB c (b :: _) = _
    simp [sndB, hn]
theorem fstB_hit (c : UInt8) (r : Bs) : fstB c (c :: r) = [] ∧ sndB c (c :: r) = r := by simp [fstB, sndB]
theorem fstB_nil (c : UInt8) : fstB c [] = [] ∧ sndB c [] = [] := ⟨rfl, rfl⟩

end Go.Proofs.YtmjekdnfkgalbaaGreatDoor
