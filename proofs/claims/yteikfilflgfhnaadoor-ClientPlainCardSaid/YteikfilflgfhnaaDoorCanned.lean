/- status.Canned and what it is held against. -/
import Derived.Test.YteikfilflgfhnaaDoorStatus
import Derived.Test.YteikfilflgfhnaaDoorMem2
namespace Go.Proofs.YteikfilflgfhnaaDoor
open Go.RowKit
set_option maxRecDepth 100000
set_option maxHeartbeats 1000000

/-- A field: its name and its value. -/
abbrev Fd := Bs × Bs
/-- Fields as cells. -/
def fcells (l : List Fd) : List Value := l.flatMap fun f => [sv f.1, sv f.2]
theorem fcells_len (l : List Fd) : (fcells l).length = l.length * 2 := by
  induction l with
  | nil => rfl
  | cons f l ih => simp only [fcells, List.flatMap_cons, List.length_append, List.length_cons, List.length_nil] at ih ⊢; omega
theorem fcells_app (a b : List Fd) : fcells (a ++ b) = fcells a ++ fcells b := by simp [fcells]
theorem fcells_one (l : List Fd) : ∀ u ∈ fcells l, u.oneCell' = true := by
  intro u hu
  simp only [fcells, List.mem_flatMap] at hu
  obtain ⟨f, _, hf⟩ := hu
  simp at hf
  rcases hf with rfl | rfl <;> rfl
theorem info_fd : (Tryd.prog.info? 34).map (fun i => (i.zero, i.size, i.bytes)) = some (some (.agg #[.string ⟨#[]⟩, .string ⟨#[]⟩]), 2, 32) := by kernel_rfl

def ctF : Fd := ([67, 111, 110, 116, 101, 110, 116, 45, 84, 121, 112, 101], [116, 101, 120, 116, 47, 112, 108, 97, 105, 110])
def cannedF (c : Int) (l : List Fd) : List Fd := (if noBody c then [] else [ctF]) ++ l
def cannedB (c : Int) : Bs := if noBody c then [] else digs 10 c.toNat ++ [32] ++ phraseL c ++ [10]

/-- A response in memory. -/
def RespIs (w : World) (B : Nat) (v : Value) (st : Int) (fs : List Fd) (body : Bs) : Prop :=
  ∃ Af nf cf Ab nb cb, v = .agg #[.int .i64 st, .slice Af nf cf, .slice Ab nb cb, .slice none 0 0] ∧ Rd w B 2 Af nf (fcells fs) ∧ Rd w B 1 Ab nb (body.map bv) ∧ nf ≤ cf ∧ nb ≤ cb
def RespPost (w : World) (st : Int) (fs : List Fd) (body : Bs) (e : Ending) (w' : World) : Prop := ∃ v, e = .returned v ∧ RespIs w' w'.heap.size v st fs body ∧ Below w.heap.size w w'
theorem digs_len (b : Nat) (hb : 2 ≤ b) : ∀ (k u : Nat), u < b ^ (k + 1) → (digs b u).length ≤ k + 1
  | 0, u, h => by rw [digs_step b u hb, if_pos (Nat.div_eq_of_lt (by simpa using h))]; simp
  | k + 1, u, h => by
    rw [digs_step b u hb]
    split
    · simp
    · have := digs_len b hb k (u / b) (Nat.div_lt_of_lt_mul (by rwa [Nat.pow_succ, Nat.mul_comm] at h))
      simp; omega
theorem digs10_len (u : Nat) (h : u ≤ 9223372036854775807) : (digs 10 u).length ≤ 19 := digs_len 10 (by omega) 18 u (by omega)
theorem phrase_len (c : Int) : (phraseL c).length ≤ 31 := by
  unfold phraseL
  iterate 15 refine ite_prop (Q := fun l : Bs => l.length ≤ 31) (by decide) ?_
  decide
theorem sta_Canned1 (c : Int) (A : Option Addr) (n cp : Nat) (l : List Fd) (w : World) (hA : Rd w w.heap.size 2 A n (fcells l)) (hc0 : -9223372036854775808 ≤ c) (hc1 : c ≤ 9223372036854775807) (ht : Tab10 w) (hn : n ≤ 1000000) (hnb : noBody c = false) :
    Calls Tryd.prog 29 #[.int .i64 c, .slice A n cp] w (RespPost w c (cannedF c l) (cannedB c)) := by
  obtain ⟨i0, hi, hz0, hz1, hz2⟩ := info_parts info_fd
  go_enter Tryd.func29, Tryd.ntmps29
  go_wp2_with fail
  refine (sta_NoBody c _).mono ?_
  rintro e w' ⟨rfl, rfl⟩
  go_wp2_with (at_builtin; go_loud (refine wpList_append_Own _ rfl (.tmp 12) (.tmp 14) 23 23 rfl w.heap.size 34 i0 _ 2 32 Tryd.underlying23 (.inl Tryd.underlying23) hi hz0 hz1 hz2 rfl (by decide) (.slice none 0 0) 0 [] rfl (Own.nil _ _ _ _) _ 1 (fcells [ctF]) rfl (Src.of_rd (Rd.new _ _ (by simp) (fcells [ctF]) _ 1 2 rfl) (fcells_one _)) (by decide) (by decide) (by simp; omega) ?_); intro v1 w1 ho1 hg1 hat1; obtain ⟨A1, c1, hv1, hn1, hm1, hr1, q1⟩ := ho1.rd; subst hv1; obtain ⟨hc1, hf1⟩ := bcell (grown_nil hg1); have zz1 : w.heap.size + 3 ≤ w1.heap.size := by (have := hg1.size; simp at this; omega))
  have L1 : Below w.heap.size w w1 := stepW (by go_grown) (grown_nil hg1)
  have B1 : Blk w1 (w.heap.size + 1) 37 #[.int .i64 c, .slice none 0 0, .slice none 0 0, .slice none 0 0] := ((Blk.new' _ _ (by simp) _ _).alloc _).belowW (grown_nil hg1)
  have B0 : Blk w1 w.heap.size 37 #[.int .i64 0, .slice none 0 0, .slice none 0 0, .slice none 0 0] := (((Blk.new' _ _ (by simp) _ _).alloc _).alloc _).belowW (grown_nil hg1)
  have hne : ∀ k, (Value.slice A1 (0 + 1) c1).ownBlock = some k → (k ≠ w.heap.size + 1 ∧ k ≠ w.heap.size) ∧ k < w1.heap.size := by
    intro k hk
    refine ⟨?_, (ho1.lt k hk).2⟩
    rcases hat1 with h | h
    · rw [h] at hk; cases hk
    · rw [h] at hk; simp at hk; omega
  clear hc1 hf1 hg1 hat1 hr1
  refine (asc_Dec c _ hc0 (by assumption) (tab_below ht (setW L1 (by simp) _) (Nat.le_refl _))).mono ?_
  rintro e w2 ⟨rfl, hb2⟩
  go_wp2_with fail
  refine (sta_Phrase c _).mono ?_
  rintro e w3 ⟨rfl, rfl⟩
  go_wp2_with fail
  have hdl := digs10_len c.toNat (by omega)
  have hpl := phrase_len c
  refine (asc_Join _ 4 4 (w2.heap.size + 1) [⟨(digs 10 c.toNat).toArray⟩, ⟨#[32]⟩, ⟨(phraseL c).toArray⟩, ⟨#[10]⟩] _ (by simp) (Rd.new _ _ rfl _ _ _ _ rfl) (by omega) (by simp; omega) (by omega)).mono ?_
  rintro e w4 ⟨rfl, hb4⟩
  have L4 : Below w.heap.size w w4 := stepW (allocW (stepW (setW L1 (by simp) _) hb2) _) hb4
  have B1' : Blk w4 (w.heap.size + 1) 37 #[.int .i64 c, .slice A1 (0 + 1) c1, .slice none 0 0, .slice none 0 0] := (((B1.set_ 1 (.slice A1 (0 + 1) c1)).belowW hb2).alloc _).belowW hb4
  have B0' : Blk w4 w.heap.size 37 #[.int .i64 0, .slice none 0 0, .slice none 0 0, .slice none 0 0] := (((B0.far (by simp) _).belowW hb2).alloc _).belowW hb4
  have O1 : Own w4 w.heap.size 34 2 (.slice A1 (0 + 1) c1) (0 + 1) ([] ++ fcells [ctF]) := (((ho1.far (fun k hk => (hne k hk).1.1) _).belowW hb2).alloc _).belowW hb4
  have T4 := tab_below ht L4 (Nat.le_refl _)
  have S4 := L4.size
  have S14 : w1.heap.size ≤ w4.heap.size ∧ w.heap.size + 2 ≤ w4.heap.size := by have h2 := hb2.size; have h4 := hb4.size; simp at h2 h4; omega
  have ho1' := O1
  clear L1 B1 B0 ho1 hb2 hb4 zz1 q1
  have hA4 : Rd w4 w.heap.size 2 A n (fcells l) := hA.below L4
  have hJl : (digs 10 c.toNat ++ 32 :: (phraseL c ++ [10])).length ≤ 60 := by simp; omega
  go_wp2_with (first
    | (refine wpList_toBytes _ rfl (.tmp 22) 9 22 rfl 5 w.heap.size ⟨(digs 10 c.toNat ++ 32 :: (phraseL c ++ [10])).toArray⟩ rfl Tryd.underlying9 Tryd.underlying22 Tryd.underlying5 (by simp [maxLen, ByteArray.size]; omega) S4 ?_
       intro cap w5 hcap ho5 hg5 hz5
       have hb5 := below_of_none hg5
       have B5 := B1'.belowW hb5
       obtain ⟨c0, c1', c2, c3, f0, f1, f2, f3⟩ := B5.c4)
    | (at_builtin
       go_must (
         refine wpList_append_Own _ rfl (.tmp 26) (.tmp 27) 23 23 rfl w.heap.size 34 i0 _ 2 32 Tryd.underlying23 (.inl Tryd.underlying23) hi hz0 hz1 hz2 rfl (by decide) (.slice A1 (0 + 1) c1) _ _ rfl ((O1.belowW hb5).far (fun k hk => (hne k hk).1.1) _) _ n (fcells l) rfl (Src.of_rd ((hA4.below (hb5.mono S4)).far (by simp) _) (fcells_one _)) (by unfold maxLen; omega) (by omega) (by simp; omega) ?_
         intro v6 w6 ho6 hg6 hat6
         obtain ⟨A6, c6, hv6, hn6, hm6, hr6, q6⟩ := ho6.rd
         subst hv6
         have B6 := (B5.set_ 2 _).grown hg6 (fun e => (hne _ e.symm).1.1 rfl)
         have B60 := ((B0'.belowW hb5).far (p := ⟨w.heap.size + 1, 2, none⟩) (by simp) _).grown hg6 (fun e => (hne _ e.symm).1.2 rfl)
         obtain ⟨k0, k1, k2, k3, g0, g1, g2, g3⟩ := B6.c4
         obtain ⟨j0, j1, j2, j3, i0', i1, i2, i3⟩ := B60.c4)))
  refine bodyPost_ret (v := .agg #[.int .i64 c, .slice A6 (1 + n) c6, .slice (some ⟨w4.heap.size, 0, none⟩) (List.length (digs 10 c.toNat) + (List.length (phraseL c) + 1 + 1)) cap, .slice none 0 0]) (by simp [results, Tryd.results29, go_sem, j0, j1, j2, j3]) rfl ?_
  have hne6 : ∀ k, (Value.slice A6 (0 + 1 + n) c6).ownBlock = some k → k ≠ w.heap.size + 1 ∧ k ≠ w.heap.size := by
    intro k hk
    rcases hat6 with h | h
    · rw [h] at hk; exact (hne k hk).1
    · rw [h] at hk; simp at hk; have := hb5.size; omega
  have hbk : ∀ k, (Value.slice (some ⟨w4.heap.size, 0, none⟩) (List.length (digs 10 c.toNat) + (List.length (phraseL c) + 1 + 1)) cap).ownBlock = some k → k ≠ w.heap.size + 1 ∧ k ≠ w.heap.size := by
    intro k hk
    simp [Value.ownBlock] at hk; omega
  have ho5' : Own w5 w.heap.size 5 1 (.slice (some ⟨w4.heap.size, 0, none⟩) (List.length (digs 10 c.toNat) + (List.length (phraseL c) + 1 + 1)) cap) (List.length (digs 10 c.toNat) + (List.length (phraseL c) + 1 + 1)) ((digs 10 c.toNat ++ 32 :: (phraseL c ++ [10])).map bv) := by
    simpa [ByteArray.size] using ho5
  have ho5w : Own w6 w.heap.size 5 1 _ _ _ := (ho5'.far (p := ⟨w.heap.size + 1, 2, none⟩) (fun k hk => (hbk k hk).1) _).grown hg6 (.inr (by
    intro h; have := (hne w4.heap.size h.symm).2; omega))
  have O6 := ((((ho6.far (p := ⟨w.heap.size + 1, 1, none⟩) (fun k hk => (hne6 k hk).1) (.slice A6 (1 + n) c6)).far (p := ⟨w.heap.size, 0, none⟩) (fun k hk => (hne6 k hk).2) (.int .i64 c)).far (p := ⟨w.heap.size, 1, none⟩) (fun k hk => (hne6 k hk).2) (.slice A6 (1 + n) c6)).far (p := ⟨w.heap.size, 2, none⟩) (fun k hk => (hne6 k hk).2) (.slice (some ⟨w4.heap.size, 0, none⟩) (List.length (digs 10 c.toNat) + (List.length (phraseL c) + 1 + 1)) cap)).far (p := ⟨w.heap.size, 3, none⟩) (fun k hk => (hne6 k hk).2) (.slice none 0 0)
  have O5 := ((((ho5w.far (p := ⟨w.heap.size + 1, 1, none⟩) (fun k hk => (hbk k hk).1) (.slice A6 (1 + n) c6)).far (p := ⟨w.heap.size, 0, none⟩) (fun k hk => (hbk k hk).2) (.int .i64 c)).far (p := ⟨w.heap.size, 1, none⟩) (fun k hk => (hbk k hk).2) (.slice A6 (1 + n) c6)).far (p := ⟨w.heap.size, 2, none⟩) (fun k hk => (hbk k hk).2) (.slice (some ⟨w4.heap.size, 0, none⟩) (List.length (digs 10 c.toNat) + (List.length (phraseL c) + 1 + 1)) cap)).far (p := ⟨w.heap.size, 3, none⟩) (fun k hk => (hbk k hk).2) (.slice none 0 0)
  have L6 : Below w.heap.size w w6 := growW (setW (p := ⟨w.heap.size + 1, 2, none⟩) (stepW L4 hb5) (by simp) _) hg6 (fun k hk => (ho1'.lt k hk).1)
  refine ⟨_, rfl, ⟨A6, 1 + n, c6, _, _, cap, rfl, ?_, ?_, by omega, by simpa [ByteArray.size] using hcap⟩, setW (setW (setW (setW (setW L6 (by simp) _) (by simp) _) (by simp) _) (by simp) _) (by simp) _⟩
  · have h := O6.rdS.2.2
    rw [cannedF, hnb, if_neg (by decide), fcells_app]
    simpa [Nat.add_comm] using h
  · have h := O5.rdS.2.2
    rw [cannedB, hnb, if_neg (by decide)]
    simpa using h
theorem ref_Canned1 (c : Int) (A : Option Addr) (n cp : Nat) (l : List Fd) (w : World) (hA : Rd w w.heap.size 2 A n (fcells l)) (hc1 : c ≤ 9223372036854775807) (hn : n ≤ 1000000) (hnb : noBody c = false) :
    Calls Tryd.prog 30 #[.int .i64 c, .slice A n cp] w (RespPost w c (cannedF c l) (cannedB c)) := by
  obtain ⟨i0, hi, hz0, hz1, hz2⟩ := info_parts info_fd
  go_enter Tryd.func30, Tryd.ntmps30
  go_wp2_with fail
  refine (ref_NoBody c _).mono ?_
  rintro e w' ⟨rfl, rfl⟩
  go_wp2_with (at_builtin; go_loud (refine wpList_append_Own _ rfl (.tmp 12) (.tmp 14) 23 23 rfl w.heap.size 34 i0 _ 2 32 Tryd.underlying23 (.inl Tryd.underlying23) hi hz0 hz1 hz2 rfl (by decide) (.slice none 0 0) 0 [] rfl (Own.nil _ _ _ _) _ 1 (fcells [ctF]) rfl (Src.of_rd (Rd.new _ _ (by simp) (fcells [ctF]) _ 1 2 rfl) (fcells_one _)) (by decide) (by decide) (by simp; omega) ?_); intro v1 w1 ho1 hg1 hat1; obtain ⟨A1, c1, hv1, hn1, hm1, hr1, q1⟩ := ho1.rd; subst hv1; obtain ⟨hc1, hf1⟩ := bcell (grown_nil hg1); have zz1 : w.heap.size + 3 ≤ w1.heap.size := by (have := hg1.size; simp at this; omega))
  have L1 : Below w.heap.size w w1 := stepW (by go_grown) (grown_nil hg1)
  have B1 : Blk w1 (w.heap.size + 1) 37 #[.int .i64 c, .slice none 0 0, .slice none 0 0, .slice none 0 0] := ((Blk.new' _ _ (by simp) _ _).alloc _).belowW (grown_nil hg1)
  have B0 : Blk w1 w.heap.size 37 #[.int .i64 0, .slice none 0 0, .slice none 0 0, .slice none 0 0] := (((Blk.new' _ _ (by simp) _ _).alloc _).alloc _).belowW (grown_nil hg1)
  have hne : ∀ k, (Value.slice A1 (0 + 1) c1).ownBlock = some k → (k ≠ w.heap.size + 1 ∧ k ≠ w.heap.size) ∧ k < w1.heap.size := by
    intro k hk
    refine ⟨?_, (ho1.lt k hk).2⟩
    rcases hat1 with h | h
    · rw [h] at hk; cases hk
    · rw [h] at hk; simp at hk; omega
  clear hc1 hf1 hg1 hat1 hr1
  refine (ref_Dec c _ (by assumption)).mono ?_
  rintro e w2 ⟨rfl, hb2⟩
  have hdl := digs10_len c.toNat (by omega)
  have hpl := phrase_len c
  go_wp2_with fail
  refine (ref_Phrase c _).mono ?_
  rintro e w4 ⟨rfl, hb4⟩
  subst hb4
  have L4 : Below w.heap.size w w2 := stepW (setW L1 (by simp) _) hb2
  have B1' : Blk w2 (w.heap.size + 1) 37 #[.int .i64 c, .slice A1 (0 + 1) c1, .slice none 0 0, .slice none 0 0] := ((B1.set_ 1 (.slice A1 (0 + 1) c1)).belowW hb2)
  have B0' : Blk w2 w.heap.size 37 #[.int .i64 0, .slice none 0 0, .slice none 0 0, .slice none 0 0] := ((B0.far (by simp) _).belowW hb2)
  have O1 : Own w2 w.heap.size 34 2 (.slice A1 (0 + 1) c1) (0 + 1) ([] ++ fcells [ctF]) := ((ho1.far (fun k hk => (hne k hk).1.1) _).belowW hb2)
  have S4 := L4.size
  have S14 : w1.heap.size ≤ w2.heap.size ∧ w.heap.size + 2 ≤ w2.heap.size := by have h2 := hb2.size; simp at h2; omega
  have ho1' := O1
  clear L1 B1 B0 ho1 hb2 zz1 q1
  have hA4 : Rd w2 w.heap.size 2 A n (fcells l) := hA.below L4
  have hJl : (digs 10 c.toNat ++ 32 :: (phraseL c ++ [10])).length ≤ 60 := by simp; omega
  go_wp2_with (first
    | (refine wpList_toBytes _ rfl (.tmp 23) 9 22 rfl 5 w.heap.size (((⟨(digs 10 c.toNat).toArray⟩ ++ ⟨#[32]⟩) ++ ⟨(phraseL c).toArray⟩) ++ ⟨#[10]⟩ : ByteArray) rfl Tryd.underlying9 Tryd.underlying22 Tryd.underlying5 (by simp [maxLen, ByteArray.size]; omega) S4 ?_
       intro cap w5 hcap ho5 hg5 hz5
       have hb5 := below_of_none hg5
       have B5 := B1'.belowW hb5
       obtain ⟨c0, c1', c2, c3, f0, f1, f2, f3⟩ := B5.c4)
    | (at_builtin
       go_must (
         refine wpList_append_Own _ rfl (.tmp 27) (.tmp 28) 23 23 rfl w.heap.size 34 i0 _ 2 32 Tryd.underlying23 (.inl Tryd.underlying23) hi hz0 hz1 hz2 rfl (by decide) (.slice A1 (0 + 1) c1) _ _ rfl ((O1.belowW hb5).far (fun k hk => (hne k hk).1.1) _) _ n (fcells l) rfl (Src.of_rd ((hA4.below (hb5.mono S4)).far (by simp) _) (fcells_one _)) (by unfold maxLen; omega) (by omega) (by simp; omega) ?_
         intro v6 w6 ho6 hg6 hat6
         obtain ⟨A6, c6, hv6, hn6, hm6, hr6, q6⟩ := ho6.rd
         subst hv6
         have B6 := (B5.set_ 2 _).grown hg6 (fun e => (hne _ e.symm).1.1 rfl)
         have B60 := ((B0'.belowW hb5).far (p := ⟨w.heap.size + 1, 2, none⟩) (by simp) _).grown hg6 (fun e => (hne _ e.symm).1.2 rfl)
         obtain ⟨k0, k1, k2, k3, g0, g1, g2, g3⟩ := B6.c4
         obtain ⟨j0, j1, j2, j3, i0', i1, i2, i3⟩ := B60.c4)))
  refine bodyPost_ret (v := .agg #[.int .i64 c, .slice A6 (1 + n) c6, .slice (some ⟨w2.heap.size, 0, none⟩) (List.length (digs 10 c.toNat) + 1 + List.length (phraseL c) + 1) cap, .slice none 0 0]) (by simp [results, Tryd.results30, go_sem, j0, j1, j2, j3]) rfl ?_
  have hne6 : ∀ k, (Value.slice A6 (0 + 1 + n) c6).ownBlock = some k → k ≠ w.heap.size + 1 ∧ k ≠ w.heap.size := by
    intro k hk
    rcases hat6 with h | h
    · rw [h] at hk; exact (hne k hk).1
    · rw [h] at hk; simp at hk; have := hb5.size; omega
  have hbk : ∀ k, (Value.slice (some ⟨w2.heap.size, 0, none⟩) (List.length (digs 10 c.toNat) + 1 + List.length (phraseL c) + 1) cap).ownBlock = some k → k ≠ w.heap.size + 1 ∧ k ≠ w.heap.size := by
    intro k hk
    simp [Value.ownBlock] at hk; omega
  have ho5' : Own w5 w.heap.size 5 1 (.slice (some ⟨w2.heap.size, 0, none⟩) (List.length (digs 10 c.toNat) + 1 + List.length (phraseL c) + 1) cap) (List.length (digs 10 c.toNat) + 1 + List.length (phraseL c) + 1) ((digs 10 c.toNat ++ 32 :: (phraseL c ++ [10])).map bv) := by
    simpa [ByteArray.size, Nat.add_assoc, Nat.add_comm, Nat.add_left_comm] using ho5
  have ho5w : Own w6 w.heap.size 5 1 _ _ _ := (ho5'.far (p := ⟨w.heap.size + 1, 2, none⟩) (fun k hk => (hbk k hk).1) _).grown hg6 (.inr (by
    intro h; have := (hne w2.heap.size h.symm).2; omega))
  have O6 := ((((ho6.far (p := ⟨w.heap.size + 1, 1, none⟩) (fun k hk => (hne6 k hk).1) (.slice A6 (1 + n) c6)).far (p := ⟨w.heap.size, 0, none⟩) (fun k hk => (hne6 k hk).2) (.int .i64 c)).far (p := ⟨w.heap.size, 1, none⟩) (fun k hk => (hne6 k hk).2) (.slice A6 (1 + n) c6)).far (p := ⟨w.heap.size, 2, none⟩) (fun k hk => (hne6 k hk).2) (.slice (some ⟨w2.heap.size, 0, none⟩) (List.length (digs 10 c.toNat) + 1 + List.length (phraseL c) + 1) cap)).far (p := ⟨w.heap.size, 3, none⟩) (fun k hk => (hne6 k hk).2) (.slice none 0 0)
  have O5 := ((((ho5w.far (p := ⟨w.heap.size + 1, 1, none⟩) (fun k hk => (hbk k hk).1) (.slice A6 (1 + n) c6)).far (p := ⟨w.heap.size, 0, none⟩) (fun k hk => (hbk k hk).2) (.int .i64 c)).far (p := ⟨w.heap.size, 1, none⟩) (fun k hk => (hbk k hk).2) (.slice A6 (1 + n) c6)).far (p := ⟨w.heap.size, 2, none⟩) (fun k hk => (hbk k hk).2) (.slice (some ⟨w2.heap.size, 0, none⟩) (List.length (digs 10 c.toNat) + 1 + List.length (phraseL c) + 1) cap)).far (p := ⟨w.heap.size, 3, none⟩) (fun k hk => (hbk k hk).2) (.slice none 0 0)
  have L6 : Below w.heap.size w w6 := growW (setW (p := ⟨w.heap.size + 1, 2, none⟩) (stepW L4 hb5) (by simp) _) hg6 (fun k hk => (ho1'.lt k hk).1)
  refine ⟨_, rfl, ⟨A6, 1 + n, c6, _, _, cap, rfl, ?_, ?_, by omega, by simp [ByteArray.size] at hcap; omega⟩, setW (setW (setW (setW (setW L6 (by simp) _) (by simp) _) (by simp) _) (by simp) _) (by simp) _⟩
  · have h := O6.rdS.2.2
    rw [cannedF, hnb, if_neg (by decide), fcells_app]
    simpa [Nat.add_comm] using h
  · have h := O5.rdS.2.2
    rw [cannedB, hnb, if_neg (by decide)]
    simpa using h

theorem sta_Canned2 (c : Int) (A : Option Addr) (n cp : Nat) (l : List Fd) (w : World) (hA : Rd w w.heap.size 2 A n (fcells l)) (hn : n ≤ 1000000) (hnb : noBody c = true) :
    Calls Tryd.prog 29 #[.int .i64 c, .slice A n cp] w (RespPost w c (cannedF c l) (cannedB c)) := by
  obtain ⟨i0, hi, hz0, hz1, hz2⟩ := info_parts info_fd
  go_enter Tryd.func29, Tryd.ntmps29
  go_wp2_with fail
  refine (sta_NoBody c _).mono ?_
  rintro e w' ⟨rfl, rfl⟩
  go_wp2_with (at_builtin; go_must (refine wpList_append_Own _ rfl (.tmp 26) (.tmp 27) 23 23 rfl w.heap.size 34 i0 _ 2 32 Tryd.underlying23 (.inl Tryd.underlying23) hi hz0 hz1 hz2 rfl (by decide) (.slice none 0 0) 0 [] rfl (Own.nil _ _ _ _) _ n (fcells l) rfl (Src.of_rd ((hA.alloc (Nat.le_refl _) _).alloc (by simp) _) (fcells_one _)) (by unfold maxLen; omega) (by omega) (by simp; omega) ?_; intro v1 w1 ho1 hg1 hat1; obtain ⟨A6, c6, hv1, n1, m1, r1, q1⟩ := ho1.rd; subst hv1; have B1 : Blk w1 (w.heap.size + 1) 37 #[.int .i64 c, .slice none 0 0, .slice none 0 0, .slice none 0 0] := ((Blk.new' _ _ (by simp) _ _)).belowW (grown_nil hg1); have B0 : Blk w1 w.heap.size 37 #[.int .i64 0, .slice none 0 0, .slice none 0 0, .slice none 0 0] := (((Blk.new' _ _ (by simp) _ _).alloc _)).belowW (grown_nil hg1); obtain ⟨k0, k1, k2, k3, g0, g1, g2, g3⟩ := B1.c4; obtain ⟨j0, j1, j2, j3, i0', i1, i2, i3⟩ := B0.c4))
  have L1 : Below w.heap.size w w1 := stepW (by go_grown) (grown_nil hg1)
  refine bodyPost_ret (v := .agg #[.int .i64 c, .slice A6 n c6, .slice none 0 0, .slice none 0 0]) (by simp [results, Tryd.results29, go_sem, j0, j1, j2, j3]) rfl ?_
  have hne6 : ∀ k, (Value.slice A6 (0 + n) c6).ownBlock = some k → k ≠ w.heap.size + 1 ∧ k ≠ w.heap.size := by
    intro k hk
    rcases hat1 with h | h
    · rw [h] at hk; cases hk
    · rw [h] at hk; simp at hk; omega
  have O6 := ((((ho1.far (p := ⟨w.heap.size + 1, 1, none⟩) (fun k hk => (hne6 k hk).1) (.slice A6 n c6)).far (p := ⟨w.heap.size, 0, none⟩) (fun k hk => (hne6 k hk).2) (.int .i64 c)).far (p := ⟨w.heap.size, 1, none⟩) (fun k hk => (hne6 k hk).2) (.slice A6 n c6)).far (p := ⟨w.heap.size, 2, none⟩) (fun k hk => (hne6 k hk).2) (.slice none 0 0)).far (p := ⟨w.heap.size, 3, none⟩) (fun k hk => (hne6 k hk).2) (.slice none 0 0)
  refine ⟨_, rfl, ⟨A6, n, c6, none, 0, 0, rfl, ?_, ?_, by omega, Nat.le_refl _⟩, setW (setW (setW (setW (setW L1 (by simp) _) (by simp) _) (by simp) _) (by simp) _) (by simp) _⟩
  · have h := O6.rdS.2.2
    rw [cannedF, hnb, if_pos rfl]
    simpa using h
  · rw [cannedB, hnb, if_pos rfl]
    exact Rd.nil _ _ _ _

theorem ref_Canned2 (c : Int) (A : Option Addr) (n cp : Nat) (l : List Fd) (w : World) (hA : Rd w w.heap.size 2 A n (fcells l)) (hn : n ≤ 1000000) (hnb : noBody c = true) :
    Calls Tryd.prog 30 #[.int .i64 c, .slice A n cp] w (RespPost w c (cannedF c l) (cannedB c)) := by
  obtain ⟨i0, hi, hz0, hz1, hz2⟩ := info_parts info_fd
  go_enter Tryd.func30, Tryd.ntmps30
  go_wp2_with fail
  refine (ref_NoBody c _).mono ?_
  rintro e w' ⟨rfl, rfl⟩
  go_wp2_with (at_builtin; go_must (refine wpList_append_Own _ rfl (.tmp 27) (.tmp 28) 23 23 rfl w.heap.size 34 i0 _ 2 32 Tryd.underlying23 (.inl Tryd.underlying23) hi hz0 hz1 hz2 rfl (by decide) (.slice none 0 0) 0 [] rfl (Own.nil _ _ _ _) _ n (fcells l) rfl (Src.of_rd ((hA.alloc (Nat.le_refl _) _).alloc (by simp) _) (fcells_one _)) (by unfold maxLen; omega) (by omega) (by simp; omega) ?_; intro v1 w1 ho1 hg1 hat1; obtain ⟨A6, c6, hv1, n1, m1, r1, q1⟩ := ho1.rd; subst hv1; have B1 : Blk w1 (w.heap.size + 1) 37 #[.int .i64 c, .slice none 0 0, .slice none 0 0, .slice none 0 0] := ((Blk.new' _ _ (by simp) _ _)).belowW (grown_nil hg1); have B0 : Blk w1 w.heap.size 37 #[.int .i64 0, .slice none 0 0, .slice none 0 0, .slice none 0 0] := (((Blk.new' _ _ (by simp) _ _).alloc _)).belowW (grown_nil hg1); obtain ⟨k0, k1, k2, k3, g0, g1, g2, g3⟩ := B1.c4; obtain ⟨j0, j1, j2, j3, i0', i1, i2, i3⟩ := B0.c4))
  have L1 : Below w.heap.size w w1 := stepW (by go_grown) (grown_nil hg1)
  refine bodyPost_ret (v := .agg #[.int .i64 c, .slice A6 n c6, .slice none 0 0, .slice none 0 0]) (by simp [results, Tryd.results30, go_sem, j0, j1, j2, j3]) rfl ?_
  have hne6 : ∀ k, (Value.slice A6 (0 + n) c6).ownBlock = some k → k ≠ w.heap.size + 1 ∧ k ≠ w.heap.size := by
    intro k hk
    rcases hat1 with h | h
    · rw [h] at hk; cases hk
    · rw [h] at hk; simp at hk; omega
  have O6 := ((((ho1.far (p := ⟨w.heap.size + 1, 1, none⟩) (fun k hk => (hne6 k hk).1) (.slice A6 n c6)).far (p := ⟨w.heap.size, 0, none⟩) (fun k hk => (hne6 k hk).2) (.int .i64 c)).far (p := ⟨w.heap.size, 1, none⟩) (fun k hk => (hne6 k hk).2) (.slice A6 n c6)).far (p := ⟨w.heap.size, 2, none⟩) (fun k hk => (hne6 k hk).2) (.slice none 0 0)).far (p := ⟨w.heap.size, 3, none⟩) (fun k hk => (hne6 k hk).2) (.slice none 0 0)
  refine ⟨_, rfl, ⟨A6, n, c6, none, 0, 0, rfl, ?_, ?_, by omega, Nat.le_refl _⟩, setW (setW (setW (setW (setW L1 (by simp) _) (by simp) _) (by simp) _) (by simp) _) (by simp) _⟩
  · have h := O6.rdS.2.2
    rw [cannedF, hnb, if_pos rfl]
    simpa using h
  · rw [cannedB, hnb, if_pos rfl]
    exact Rd.nil _ _ _ _

theorem sta_Canned (c : Int) (A : Option Addr) (n cp : Nat) (l : List Fd) (w : World) (hA : Rd w w.heap.size 2 A n (fcells l)) (hc0 : -9223372036854775808 ≤ c) (hc1 : c ≤ 9223372036854775807) (ht : Tab10 w) (hn : n ≤ 1000000) :
    Calls Tryd.prog 29 #[.int .i64 c, .slice A n cp] w (RespPost w c (cannedF c l) (cannedB c)) := by
  cases h : noBody c
  · exact sta_Canned1 c A n cp l w hA hc0 hc1 ht hn h
  · exact sta_Canned2 c A n cp l w hA hn h
theorem ref_Canned (c : Int) (A : Option Addr) (n cp : Nat) (l : List Fd) (w : World) (hA : Rd w w.heap.size 2 A n (fcells l)) (hc1 : c ≤ 9223372036854775807) (hn : n ≤ 1000000) :
    Calls Tryd.prog 30 #[.int .i64 c, .slice A n cp] w (RespPost w c (cannedF c l) (cannedB c)) := by
  cases h : noBody c
  · exact ref_Canned1 c A n cp l w hA hc1 hn h
  · exact ref_Canned2 c A n cp l w hA hn h
end Go.Proofs.YteikfilflgfhnaaDoor
