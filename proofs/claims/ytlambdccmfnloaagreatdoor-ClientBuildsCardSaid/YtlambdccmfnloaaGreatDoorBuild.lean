/- strings.Builder at this dump: copyCheck, WriteByte, Write, String. Paths in plain words, on: what is clean stays; down and up. Targets in plain words, on: a target printed. target.encoded. -/
import Derived.Test.YtlambdccmfnloaaGreatDoorProg
import Derived.Test.YtlambdccmfnloaaGreatDoorPlain
import Derived.Test.YtlambdccmfnloaaGreatDoorShelf
import Derived.Lib.Builder
import Derived.Lib.MakeNoZero
import Derived.Laws.Externs
import Derived.Test.YtlambdccmfnloaaGreatDoorApp
import Derived.Test.YtlambdccmfnloaaGreatDoorTgt5
import Derived.StillTailTactics
namespace Go.Proofs.YtlambdccmfnloaaGreatDoor
open Go.RowKit
set_option maxRecDepth 100000
set_option maxHeartbeats 2000000

theorem bl_size : (Tryz.prog.info? 159).map (·.size) = some 2 := by kernel_rfl
theorem bl_lies : liesAt Tryz.prog Tryz.prog.depth 159 (2 / Tryz.prog.cellsOf 159) 0 159 1 = true := by kernel_rfl
theorem bl_u8 : (Tryz.prog.info? 5).map (fun i => (i.zero, i.size, i.bytes)) = some (some (.int .u8 0), 1, 1) := by kernel_rfl
theorem bl_used (b : Nat) (w : World) (h0 : w.cell? ⟨b, 0, none⟩ = some (.pointer (some ⟨b, 0, none⟩))) :
    Calls Tryz.prog 164 #[.pointer (some ⟨b, 0, none⟩)] w fun e w' => e = .returned (.tuple #[]) ∧ w = w' := by
  obtain ⟨j, hj, _⟩ := Option.map_eq_some_iff.1 bl_size
  go_enter Tryz.func164, Tryz.ntmps164
  go_wp2
  rw [Lib.run_neq_ptr_same w _ Tryz.underlying157 hj]
  go_wp2
  go_end0
  exact ⟨rfl, rfl⟩
theorem bl_fresh (b : Nat) (w : World) (h0 : w.cell? ⟨b, 0, none⟩ = some (.pointer none)) (hsh : w.shape? b = some (159, 2)) (hfz : w.frozen? ⟨b, 0, none⟩ = false) :
    Calls Tryz.prog 164 #[.pointer (some ⟨b, 0, none⟩)] w fun e w' => e = .returned (.tuple #[]) ∧ w.setCell ⟨b, 0, none⟩ (.pointer (some ⟨b, 0, none⟩)) = w' := by
  obtain ⟨j, hj, hjs⟩ := Option.map_eq_some_iff.1 bl_size
  go_enter Tryz.func164, Tryz.ntmps164
  go_wp2
  rw [Lib.run_to_unsafe w ⟨b, 0, none⟩ Tryz.underlying157 Tryz.underlying203 hj (by rw [hjs]; decide) hsh (Nat.zero_lt_succ 1)]
  simp only [Result.andThen]
  rw [Oper.upon_value]
  go_wp2
  rw [run_callFunc_extern Tryz.func197 (by kernel_rfl) (by kernel_rfl) (by kernel_rfl) (e := Extern.AbiNoEscape.same) (by kernel_rfl)]
  rw [Lib.run_noEscape]
  simp only [Result.andThen]
  rw [Oper.upon_value]
  go_wp2
  rw [Lib.run_from_unsafe w ⟨b, 0, none⟩ Tryz.underlying203 Tryz.underlying157 hj hsh bl_lies]
  simp only [Result.andThen]
  rw [Oper.upon_value]
  go_wp2
  go_end0
  exact ⟨rfl, rfl⟩
/-- A builder that holds the bytes l. -/
def BU (w : World) (B b : Nat) (l : Bs) : Prop := Lib.IsBuilder 159 5 B b (l.map bv) w
theorem BU.new (w : World) (B : Nat) (hB : B ≤ w.heap.size) : BU (w.alloc (.cells #[.pointer none, .slice none 0 0] 159)) B w.heap.size [] := by
  refine .inl ⟨hB, .slice none 0 0, heap_alloc_new w _, ⟨by simp, .inl ⟨rfl, rfl⟩⟩, by simp [Value.ownBlock]⟩
theorem bl_check (B b : Nat) (l : Bs) (w : World) (h : BU w B b l) :
    Calls Tryz.prog 164 #[.pointer (some ⟨b, 0, none⟩)] w fun e w' => e = .returned (.tuple #[]) ∧ (Lib.BuilderAt 159 5 B b (.pointer (some ⟨b, 0, none⟩)) (l.map bv) w' ∧ Below B w w' ∧ Fr (fun k => k = b) w w') := by
  rcases h with h | h
  · refine (bl_fresh b w h.cell0 h.shape h.frozen0).mono ?_
    rintro e w' ⟨rfl, rfl⟩
    exact ⟨rfl, h.used _, (Below.refl B w).setCell (p := ⟨b, 0, none⟩) h.1 _, Fr.setCell (S := fun k => k = b) (Fr.refl _ w) (p := ⟨b, 0, none⟩) (.inl rfl) _⟩
  · refine (bl_used b w h.cell0).mono ?_
    rintro e w' ⟨rfl, rfl⟩
    exact ⟨rfl, h, Below.refl B _, Fr.refl _ _⟩
theorem bl_WriteByte (B b : Nat) (l : Bs) (c : UInt8) (w : World) (h : BU w B b l) (hlen : l.length + 1 ≤ 140737488355328) (hBw : B ≤ w.heap.size) :
    Calls Tryz.prog 117 #[.pointer (some ⟨b, 0, none⟩), .int .u8 (c.toNat : Int)] w fun e w' => e = .returned .nilIface ∧ BU w' B b (l ++ [c]) ∧ Below B w w' := by
  obtain ⟨i0, hi, hz0, hz1, hz2⟩ := info_parts bl_u8
  go_enter Tryz.func117, Tryz.ntmps117
  go_wp2_with fail
  refine (bl_check B b l w h).mono ?_
  rintro e w1 ⟨rfl, h1, hb1, hfr1⟩
  obtain ⟨hB, v, hbk, hown, hne⟩ := h1
  have c0 : w1.cell? ⟨b, 0, none⟩ = some (.pointer (some ⟨b, 0, none⟩)) := by rw [Lib.cell_of_heap hbk]; rfl
  have c1 : w1.cell? ⟨b, 1, none⟩ = some v := by rw [Lib.cell_of_heap hbk]; rfl
  have hS := hb1.size
  have hl : (l.map bv).length = l.length := by simp
  rw [hl] at hown
  go_wp2_with (at_builtin; refine wpList_append_own _ rfl _ _ 25 rfl B 5 i0 (.int .u8 0) 1 1 Tryz.underlying25 hi hz0 hz1 hz2 rfl (by decide) _ _ _ rfl (hown.alloc _) ⟨w1.heap.size, 0, none⟩ 1 1 [.int .u8 (c.toNat : Int)] rfl rfl ?c1 ?c2 ?c3 ?c4 ?c5 ?_)
  case c1 =>
    intro j u hj
    match j, hj with
    | 0, hj => simp at hj; subst hj; simp [Addr.add]
  case c2 => intro u hu; simp at hu; subst hu; rfl
  case c3 => unfold maxLen; omega
  case c4 => omega
  case c5 => simp; omega
  intro v' w2 hown' hgrow _
  have hlt : b < w1.heap.size := (Array.getElem?_eq_some_iff.1 hbk).1
  have hb2 : w2.heap[b]? = some (.cells #[.pointer (some ⟨b, 0, none⟩), v] 159 (0, 0)) := by
    rw [hgrow.block b (by simp; omega) (fun e => hne e.symm), Lib.alloc_old w1 _ b hlt]
    exact hbk
  have d0 : w2.cell? ⟨b, 0, none⟩ = some (.pointer (some ⟨b, 0, none⟩)) := by rw [Lib.cell_of_heap hb2]; rfl
  have d1 : w2.cell? ⟨b, 1, none⟩ = some v := by rw [Lib.cell_of_heap hb2]; rfl
  have f1 : w2.frozen? ⟨b, 1, none⟩ = false := Lib.frozen_of_heap hb2 1
  obtain ⟨g, cap, rfl⟩ : ∃ g cap, v' = .slice (some ⟨g, 0, none⟩) (l.length + 1) cap := by
    rcases hown'.2 with ⟨_, h0⟩ | ⟨g, cap, cur, hv, _⟩
    · omega
    · exact ⟨g, cap, hv⟩
  go_wp2
  go_ret
  refine ⟨rfl, .inr ?_, ?_⟩
  · have e : (l ++ [c]).map bv = l.map bv ++ [.int .u8 (c.toNat : Int)] := by simp
    rw [e]
    exact Lib.BuilderAt.put (T := 159) (e := 5) hB hb2 (bs' := l.map bv ++ [.int .u8 (c.toNat : Int)]) (by simpa using hown') (by decide)
  · exact ((hb1.alloc (by omega) _).grown hgrow (by simp; omega) (fun k hk => (hown.lt k hk).1)).setCell (p := ⟨b, 1, none⟩) hB _
theorem bl_Write (B b : Nat) (l : Bs) (A : Option Addr) (n c : Nat) (m : Bs) (w : World) (h : BU w B b l) (B' : Nat) (hB' : B' ≤ w.heap.size) (hr : Rd w B' 1 A n (m.map bv)) (hne' : ∀ g o, A = some ⟨g, o, none⟩ → g ≠ b) (hn : 0 < n) (hlen : l.length + n ≤ 140737488355328) (hBw : B ≤ w.heap.size) :
    Calls Tryz.prog 118 #[.pointer (some ⟨b, 0, none⟩), .slice A n c] w fun e w' => (∃ v, e = .returned v) ∧ BU w' B b (l ++ m) ∧ Below B w w' := by
  obtain ⟨i0, hi, hz0, hz1, hz2⟩ := info_parts bl_u8
  obtain ⟨g0, o0, rfl, hg0, hcs0⟩ := hr.2 hn
  have hm : m.length = n := by simpa using hr.1
  have hml : (m.map bv).length = n * 1 := by simp [hm]
  go_enter Tryz.func118, Tryz.ntmps118
  go_wp2_with fail
  refine (bl_check B b l w h).mono ?_
  rintro e w1 ⟨rfl, h1, hb1, hfr1⟩
  obtain ⟨hB, v, hbk, hown, hne⟩ := h1
  have c0 : w1.cell? ⟨b, 0, none⟩ = some (.pointer (some ⟨b, 0, none⟩)) := by rw [Lib.cell_of_heap hbk]; rfl
  have c1 : w1.cell? ⟨b, 1, none⟩ = some v := by rw [Lib.cell_of_heap hbk]; rfl
  have hS := hb1.size
  have hl : (l.map bv).length = l.length := by simp
  rw [hl] at hown
  go_wp2_with (at_builtin; refine wpList_append_own _ rfl _ _ 25 rfl B 5 i0 (.int .u8 0) 1 1 Tryz.underlying25 hi hz0 hz1 hz2 rfl (by decide) _ _ _ rfl hown ⟨g0, o0, none⟩ n c (m.map bv) rfl hml ?c1 ?c2 ?c3 ?c4 ?c5 ?_)
  case c1 =>
    intro j u hj
    rw [add_lit', hfr1.cell (p := ⟨g0, o0 + j, none⟩) (Nat.lt_of_lt_of_le hg0 hB') (hne' g0 o0 rfl)]
    exact hcs0 j u hj
  case c2 => intro u hu; obtain ⟨x, -, rfl⟩ := List.mem_map.1 hu; rfl
  case c3 => unfold maxLen; omega
  case c4 => omega
  case c5 => omega
  intro v' w2 hown' hgrow _
  have hlt : b < w1.heap.size := (Array.getElem?_eq_some_iff.1 hbk).1
  have hb2 : w2.heap[b]? = some (.cells #[.pointer (some ⟨b, 0, none⟩), v] 159 (0, 0)) := by
    rw [hgrow.block b hlt (fun e => hne e.symm)]
    exact hbk
  have d0 : w2.cell? ⟨b, 0, none⟩ = some (.pointer (some ⟨b, 0, none⟩)) := by rw [Lib.cell_of_heap hb2]; rfl
  have d1 : w2.cell? ⟨b, 1, none⟩ = some v := by rw [Lib.cell_of_heap hb2]; rfl
  have f1 : w2.frozen? ⟨b, 1, none⟩ = false := Lib.frozen_of_heap hb2 1
  obtain ⟨g, cap, rfl⟩ : ∃ g cap, v' = .slice (some ⟨g, 0, none⟩) (l.length + n) cap := by
    rcases hown'.2 with ⟨_, h0⟩ | ⟨g, cap, cur, hv, _⟩
    · omega
    · exact ⟨g, cap, hv⟩
  go_wp2
  go_ret2
  refine ⟨⟨_, rfl⟩, .inr ?_, ?_⟩
  · have e : (l ++ m).map bv = l.map bv ++ m.map bv := by simp
    rw [e]
    exact Lib.BuilderAt.put (T := 159) (e := 5) hB hb2 (bs' := l.map bv ++ m.map bv) (by simpa [hm] using hown') (by decide)
  · exact (hb1.grown hgrow (by omega) (fun k hk => (hown.lt k hk).1)).setCell (p := ⟨b, 1, none⟩) hB _
theorem byteCells_bv (l : Bs) : Lib.byteCells l = l.map bv := rfl
theorem bl_String (B b : Nat) (l : Bs) (w : World) (h : BU w B b l) (hBw : B ≤ w.heap.size) :
    Calls Tryz.prog 119 #[.pointer (some ⟨b, 0, none⟩)] w fun e w' => e = .returned (sv l) ∧ Below B w w' :=
  Tryz.Builder_String_any B b l w h hBw
end Go.Proofs.YtlambdccmfnloaaGreatDoor
namespace Go.Proofs.YtlambdccmfnloaaGreatDoor
open Go.RowKit

def goodP (p : Bs) : Prop := p ≠ [] ∧ p ≠ [46] ∧ p ≠ [46, 46] ∧ ∀ b ∈ p, b ≠ 47
theorem splitL_no (c : UInt8) : ∀ (l : Bs), ∀ p ∈ splitL c l, ∀ b ∈ p, b ≠ c
  | [], p, hp, b, hb => by simp [splitL] at hp; subst hp; simp at hb
  | x :: l, p, hp, b, hb => by
    rw [splitL] at hp
    split at hp
    · rcases List.mem_cons.1 hp with rfl | hp
      · simp at hb
      · exact splitL_no c l p hp b hb
    · rename_i hx
      obtain ⟨q, qs, h1⟩ := List.exists_cons_of_ne_nil (splitL_ne c l)
      rw [h1] at hp
      rcases List.mem_cons.1 hp with rfl | hp
      · rcases List.mem_cons.1 hb with rfl | hb
        · exact hx
        · exact splitL_no c l q (by rw [h1]; simp) b hb
      · exact splitL_no c l p (by rw [h1]; simp [hp]) b hb
theorem stepP_good (ps : List Bs) (p : Bs) (hg : ∀ q ∈ ps, goodP q) (hp : ∀ b ∈ p, b ≠ 47) (r : List Bs) (h : stepP (some ps) p = some r) : ∀ q ∈ r, goodP q := by
  rw [stepP, Option.bind_some] at h
  split at h
  · injection h with h; exact h ▸ hg
  · rename_i h1
    split at h
    · split at h
      · cases h
      · injection h with h
        intro q hq
        rw [← h] at hq
        exact hg q (List.dropLast_subset ps hq)
    · rename_i h2
      injection h with h
      intro q hq
      rw [← h] at hq
      rcases List.mem_append.1 hq with hq | hq
      · exact hg q hq
      · obtain rfl : q = p := by simpa using hq
        exact ⟨fun e => h1 (.inl e), fun e => h1 (.inr e), h2, hp⟩
theorem fold_good : ∀ (P ps : List Bs), (∀ q ∈ ps, goodP q) → (∀ p ∈ P, ∀ b ∈ p, b ≠ 47) → ∀ r, P.foldl stepP (some ps) = some r → ∀ q ∈ r, goodP q
  | [], ps, hg, _, r, h => by
    have : ps = r := by simpa using h
    exact this ▸ hg
  | p :: P, ps, hg, hp, r, h => by
    rw [List.foldl_cons] at h
    cases hs : stepP (some ps) p with
    | none => rw [hs, stepP_none] at h; cases h
    | some q =>
      rw [hs] at h
      exact fold_good P q (stepP_good ps p hg (hp p (by simp)) q hs) (fun x hx => hp x (by simp [hx])) r h
theorem fold_id : ∀ (P ps : List Bs), (∀ q ∈ P, goodP q) → P.foldl stepP (some ps) = some (ps ++ P)
  | [], ps, _ => by simp
  | p :: P, ps, h => by
    have hp := h p (by simp)
    have e : stepP (some ps) p = some (ps ++ [p]) := by rw [stepP, Option.bind_some, if_neg (by simp [hp.1, hp.2.1]), if_neg hp.2.2.1]
    rw [List.foldl_cons, e, fold_id P (ps ++ [p]) (fun q hq => h q (by simp [hq]))]
    simp
theorem split_join : ∀ (ps : List Bs), (∀ p ∈ ps, ∀ b ∈ p, b ≠ 47) → splitL 47 (joinP ps) = [] :: ps
  | [], _ => rfl
  | p :: ps, h => by
    have hp := h p (by simp)
    have ih := split_join ps (fun q hq => h q (by simp [hq]))
    show splitL 47 (47 :: (p ++ joinP ps)) = _
    rw [splitL, if_pos rfl]
    cases ps with
    | nil => simp only [joinP, List.flatMap_nil, List.append_nil]; rw [splitL_free 47 p hp]
    | cons q qs =>
      have e : joinP (q :: qs) = 47 :: (q ++ joinP qs) := rfl
      rw [e] at ih ⊢
      rw [splitL, if_pos rfl] at ih
      rw [splitL_append 47 p _ hp, (List.cons.inj ih).2]
theorem split_join1 (ps : List Bs) (h : ∀ p ∈ ps, ∀ b ∈ p, b ≠ 47) : splitL 47 (joinP ps ++ [47]) = [] :: (ps ++ [[]]) := by
  have e : joinP ps ++ [47] = joinP (ps ++ [[]]) := by rw [joinP_app]; rfl
  rw [e]
  refine split_join _ fun p hp => ?_
  rcases List.mem_append.1 hp with hp | hp
  · exact h p hp
  · have : p = [] := by simpa using hp
    subst this; simp
theorem getLastD_good (ps : List Bs) (hne : ps ≠ []) (hg : ∀ q ∈ ps, goodP q) : dirP (ps.getLastD []) = false := by
  obtain ⟨q, hq⟩ : ∃ q, ps.getLast? = some q := ⟨ps.getLast hne, List.getLast?_eq_some_getLast hne⟩
  have hm : q ∈ ps := List.mem_of_getLast? hq
  have : ps.getLastD [] = q := by rw [List.getLastD_eq_getLast?, hq]; rfl
  rw [this]
  have := hg q hm
  simp [dirP, this.1, this.2.1, this.2.2.1]
theorem clean_join (ps : List Bs) (hne : ps ≠ []) (hg : ∀ q ∈ ps, goodP q) : cleanL (joinP ps) = some (joinP ps) := by
  have h47 : (joinP ps).head? = some 47 := by cases ps with | nil => exact absurd rfl hne | cons p ps => rfl
  rw [cleanL, if_pos h47, cleanP, split_join ps (fun p hp => (hg p hp).2.2.2), List.foldl_cons]
  have e0 : stepP (some []) [] = some [] := rfl
  rw [e0, fold_id ps [] hg]
  have hl : ([] :: ps).getLastD [] = ps.getLastD [] := by rw [List.getLastD_cons]
  simp only [List.nil_append, Option.map_some, hl, endP, getLastD_good ps hne hg]
  cases ps with
  | nil => exact absurd rfl hne
  | cons p ps => simp
theorem clean_join1 (ps : List Bs) (hg : ∀ q ∈ ps, goodP q) : cleanL (joinP ps ++ [47]) = some (joinP ps ++ [47]) := by
  have h47 : (joinP ps ++ [47]).head? = some 47 := by cases ps with | nil => rfl | cons p ps => rfl
  rw [cleanL, if_pos h47, cleanP, split_join1 ps (fun p hp => (hg p hp).2.2.2), List.foldl_cons, List.foldl_append]
  have e0 : stepP (some []) [] = some [] := rfl
  rw [e0, fold_id ps [] hg]
  have hl : ([] :: (ps ++ [[]])).getLastD [] = [] := by rw [List.getLastD_cons]; simp
  have e1 : List.foldl stepP (some ([] ++ ps)) [[]] = some ps := rfl
  rw [e1, hl]
  simp [endP, dirP]
/-- What is clean stays. -/
theorem clean_stays (l a : Bs) (h : cleanL l = some a) : cleanL a = some a := by
  rw [cleanL] at h
  split at h
  · rw [cleanP] at h
    cases hf : (splitL 47 l).foldl stepP (some []) with
    | none => rw [hf] at h; cases h
    | some ps =>
      have hg := fold_good (splitL 47 l) [] (by simp) (splitL_no 47 l) ps hf
      rw [hf] at h
      simp only [Option.map_some, Option.some.injEq] at h
      rw [← h, endP]
      split
      · exact clean_join1 ps hg
      · rename_i hn
        rw [List.append_nil]
        refine clean_join ps ?_ hg
        rintro rfl
        simp at hn
  · cases h
theorem stepP_len (ps : List Bs) (p : Bs) (r : List Bs) (h : stepP (some ps) p = some r) : (joinP r).length ≤ (joinP ps).length + (p.length + 1) ∧ (dirP p = true → (joinP r).length ≤ (joinP ps).length) := by
  rw [stepP, Option.bind_some] at h
  split at h
  · injection h with h; subst h; exact ⟨by omega, fun _ => Nat.le_refl _⟩
  · rename_i h1
    split at h
    · split at h
      · cases h
      · injection h with h
        subst h
        have := joinP_last ps
        exact ⟨by omega, fun _ => this⟩
    · rename_i h2
      injection h with h
      subst h
      refine ⟨?_, fun hd => ?_⟩
      · rw [joinP_app, List.length_append]; simp [joinP]
      · simp [dirP] at hd; exact absurd hd (by simp at h1; simp [h1, h2])
theorem fold_len : ∀ (P ps r : List Bs), P.foldl stepP (some ps) = some r → (joinP r).length ≤ (joinP ps).length + (joinP P).length
  | [], ps, r, h => by
    have : ps = r := by simpa using h
    subst this; simp [joinP]
  | p :: P, ps, r, h => by
    rw [List.foldl_cons] at h
    cases hs : stepP (some ps) p with
    | none => rw [hs, stepP_none] at h; cases h
    | some q =>
      rw [hs] at h
      have h1 := fold_len P q r h
      have h2 := (stepP_len ps p q hs).1
      have h3 : (joinP (p :: P)).length = p.length + 1 + (joinP P).length := by rw [show joinP (p :: P) = 47 :: (p ++ joinP P) from rfl]; simp; omega
      omega
theorem clean_len (l a : Bs) (h : cleanL l = some a) : a.length ≤ l.length + 1 := by
  rw [cleanL] at h
  split at h
  · rw [cleanP] at h
    cases hf : (splitL 47 l).foldl stepP (some []) with
    | none => rw [hf] at h; cases h
    | some ps =>
      rw [hf] at h
      simp only [Option.map_some, Option.some.injEq] at h
      have hJ : (joinP (splitL 47 l)).length = l.length + 1 := by rw [joinP_split]; rfl
      have h0 := fold_len _ _ _ hf
      have hz : (joinP ([] : List Bs)).length = 0 := rfl
      rw [← h, endP, List.length_append]
      split
      · rename_i hd
        have hdec := List.dropLast_concat_getLast (splitL_ne 47 l)
        have hlast : (splitL 47 l).getLastD [] = (splitL 47 l).getLast (splitL_ne 47 l) := by rw [List.getLastD_eq_getLast?, List.getLast?_eq_some_getLast (splitL_ne 47 l)]; rfl
        rw [hlast] at hd
        generalize (splitL 47 l).getLast (splitL_ne 47 l) = last at hdec hd
        rw [← hdec, List.foldl_append] at hf
        rw [← hdec, joinP_app, List.length_append] at hJ
        have hl1 : (joinP [last]).length = last.length + 1 := by simp [joinP]
        cases hs : (splitL 47 l).dropLast.foldl stepP (some []) with
        | none => rw [hs] at hf; cases hf
        | some q =>
          rw [hs] at hf
          have h2 := fold_len _ _ _ hs
          have h3 := stepP_len q last ps hf
          have h1 : ([47] : Bs).length = 1 := rfl
          rw [Bool.or_eq_true] at hd
          rcases hd with hd | hd
          · have := h3.2 hd
            rw [h1]; omega
          · have : ps = [] := by cases ps with | nil => rfl | cons => simp at hd
            subst this
            rw [h1]; omega
      · simp; omega
  · cases h

/-! ### Down and up -/
theorem fold_up (name : Bs) : ∀ (n : Nat), (List.replicate n [46, 46]).foldl stepP (some (List.replicate n name)) = some []
  | 0 => rfl
  | n + 1 => by
    rw [show List.replicate (n + 1) ([46, 46] : Bs) = [46, 46] :: List.replicate n [46, 46] from List.replicate_succ, List.foldl_cons]
    have e : stepP (some (List.replicate (n + 1) name)) [46, 46] = some (List.replicate n name) := by
      rw [stepP, Option.bind_some, if_neg (by simp), if_pos rfl, if_neg (by simp)]
      congr 1
      rw [List.dropLast_replicate]; rfl
    rw [e]
    exact fold_up name n
theorem fold_dn (n : Nat) (name : Bs) (h : goodP name) : (List.replicate n name ++ List.replicate n [46, 46]).foldl stepP (some []) = some [] := by
  rw [List.foldl_append, fold_id _ _ (fun q hq => by rw [(List.mem_replicate.1 hq).2]; exact h), List.nil_append]
  exact fold_up name n
theorem dn_no (n : Nat) (name : Bs) (h : goodP name) : ∀ p ∈ List.replicate n name ++ List.replicate n [46, 46], ∀ b ∈ p, b ≠ 47 := by
  intro p hp b hb
  rcases List.mem_append.1 hp with hp | hp
  · rw [(List.mem_replicate.1 hp).2] at hb; exact h.2.2.2 b hb
  · rw [(List.mem_replicate.1 hp).2] at hb
    intro e; subst e; simp at hb
theorem clean_root (n : Nat) (name : Bs) (h : goodP name) : cleanL (joinP (List.replicate n name) ++ joinP (List.replicate n [46, 46]) ++ [47]) = some [47] := by
  rw [← joinP_app]
  have hA := fold_dn n name h
  have hN := dn_no n name h
  generalize List.replicate n name ++ List.replicate n [46, 46] = A at hA hN
  have h47 : (joinP A ++ [47]).head? = some 47 := by cases A with | nil => rfl | cons p ps => rfl
  rw [cleanL, if_pos h47, cleanP, split_join1 A hN, List.foldl_cons, List.foldl_append]
  have e0 : stepP (some []) [] = some [] := rfl
  rw [e0, hA]
  have hl : ([] :: (A ++ [[]])).getLastD [] = [] := by rw [List.getLastD_cons]; simp
  rw [hl]; rfl
theorem clean_out (n : Nat) (name : Bs) (h : goodP name) : cleanL (joinP (List.replicate n name) ++ joinP (List.replicate n [46, 46]) ++ [47, 46, 46]) = none := by
  have e : joinP (List.replicate n name) ++ joinP (List.replicate n [46, 46]) ++ [47, 46, 46] = joinP (List.replicate n name ++ List.replicate n [46, 46] ++ [[46, 46]]) := by rw [joinP_app, joinP_app]; rfl
  rw [e]
  have hA := fold_dn n name h
  have hN := dn_no n name h
  generalize List.replicate n name ++ List.replicate n [46, 46] = A at hA hN
  have h47 : (joinP (A ++ [[46, 46]])).head? = some 47 := by cases A with | nil => rfl | cons p ps => rfl
  have hN2 : ∀ p ∈ A ++ [[46, 46]], ∀ b ∈ p, b ≠ 47 := by
    intro p hp b hb
    rcases List.mem_append.1 hp with hp | hp
    · exact hN p hp b hb
    · have : p = [46, 46] := by simpa using hp
      subst this
      intro e; subst e; simp at hb
  rw [cleanL, if_pos h47, cleanP, split_join _ hN2, List.foldl_cons, List.foldl_append]
  have e0 : stepP (some []) [] = some [] := rfl
  rw [e0, hA]; rfl
end Go.Proofs.YtlambdccmfnloaaGreatDoor
namespace Go.Proofs.YtlambdccmfnloaaGreatDoor
open Go.RowKit
set_option maxRecDepth 100000

/-- A clean path is no longer. -/
theorem clean_len2 (l a : Bs) (h : cleanL l = some a) : a.length ≤ l.length := by
  have h47 : l.head? = some 47 := by
    rw [cleanL] at h
    split at h
    · assumption
    · cases h
  obtain ⟨l', rfl⟩ : ∃ l', l = 47 :: l' := by
    cases l with
    | nil => cases h47
    | cons x l' => injection h47 with e; exact ⟨l', by rw [e]⟩
  rw [cleanL_cons, cleanP] at h
  have hJ : joinP (splitL 47 l') = 47 :: l' := joinP_split l'
  have hne := splitL_ne 47 l'
  generalize splitL 47 l' = P at h hJ hne
  cases hf : P.foldl stepP (some []) with
  | none => rw [hf] at h; cases h
  | some ps =>
    rw [hf] at h
    simp only [Option.map_some, Option.some.injEq] at h
    have hJl := congrArg List.length hJ
    have h0 := fold_len _ _ _ hf
    have hz : (joinP ([] : List Bs)).length = 0 := rfl
    rw [← h, endP, List.length_append]
    split
    · rename_i hd
      have hdec := List.dropLast_concat_getLast hne
      have hlast : P.getLastD [] = P.getLast hne := by rw [List.getLastD_eq_getLast?, List.getLast?_eq_some_getLast hne]; rfl
      rw [hlast] at hd
      generalize P.getLast hne = last at hdec hd
      rw [← hdec, List.foldl_append] at hf
      rw [← hdec, joinP_app, List.length_append] at hJl
      have hl1 : (joinP [last]).length = last.length + 1 := by simp [joinP]
      cases hs : P.dropLast.foldl stepP (some []) with
      | none => rw [hs] at hf; cases hf
      | some q =>
        rw [hs] at hf
        have h2 := fold_len _ _ _ hs
        have h3 := stepP_len q last ps hf
        have h1 : ([47] : Bs).length = 1 := rfl
        rw [Bool.or_eq_true] at hd
        rcases hd with hd | hd
        · have := h3.2 hd
          rw [h1]; omega
        · have : ps = [] := by cases ps with | nil => rfl | cons => simp at hd
          subst this
          rw [h1, hz]; simp
    · simp only [List.length_nil]; omega
def okT (t : Tgt) : Prop := (t.form = 1 ∨ t.form = 2 ∨ t.form = 3 ∨ t.form = 4) ∧ t.host.length ≤ 200 ∧ t.path.length ≤ 200 ∧ t.query.length ≤ 200
theorem orgR_ok (u t : Tgt) (s : Bs) (h : orgR u s = (t, 0)) (hu : u.form = 1 ∨ u.form = 2) (hh : u.host.length ≤ 200) (hs : s.length ≤ 200) : okT t := by
  unfold orgR originL at h
  split at h
  · rename_i h1; cases h
  · rename_i p h1
    injection h with h _
    subst h
    split at h1
    · cases hd : decodeL (fstB 63 s) with
      | none => rw [hd] at h1; cases h1
      | some d =>
        rw [hd, Option.bind_some] at h1
        have a1 := clean_len2 d p h1
        have a2 := decodeL_len _ _ (Nat.le_refl _) d hd
        have a3 := fstB_len 63 s
        have a4 := sndB_len 63 s
        exact ⟨by rcases hu with e | e <;> simp [e], hh, by show p.length ≤ 200; omega, by show (sndB 63 s).length ≤ 200; omega⟩
    · cases h1
theorem parse_ok (m s : Bs) (t : Tgt) (h : parseL m s = (t, 0)) : okT t := by
  unfold parseL at h
  split at h
  · cases h
  · rename_i hl
    split at h
    · split at h
      · injection h with h _
        subst h
        exact ⟨.inr (.inr (.inl rfl)), by show (lowL s).length ≤ 200; rw [lowL_len]; omega, by simp, by simp⟩
      · cases h
    · split at h
      · injection h with h _
        subst h
        exact ⟨.inr (.inr (.inr rfl)), by simp, by simp, by simp⟩
      · split at h
        · exact orgR_ok _ t s h (.inl rfl) (by simp) (by omega)
        · split at h
          · unfold absL at h
            have b1 := fstB_len 63 (fstB 47 (s.drop 7))
            have b2 := fstB_len 47 (s.drop 7)
            have b3 : (s.drop 7).length ≤ s.length - 7 := by rw [List.length_drop]; omega
            rename_i hp
            have b4 := pre_len _ _ hp
            rw [lowL_len] at b4
            have b5 : 7 ≤ s.length := b4
            split at h
            · refine orgR_ok _ t _ h (.inr rfl) ?_ ?_
              · show (lowL (absH (s.drop 7))).length ≤ 200
                rw [lowL_len]; unfold absH; omega
              · unfold absR
                simp only
                split
                · rw [List.length_drop]; omega
                · rw [List.length_cons, List.length_drop]; omega
            · cases h
          · cases h

/-! ### Print -/
def encB (b : UInt8) : Bs := if ofB plainS b then [b] else [37, ([48, 49, 50, 51, 52, 53, 54, 55, 56, 57, 65, 66, 67, 68, 69, 70] : Bs).getD (b.toNat / 16) 0, ([48, 49, 50, 51, 52, 53, 54, 55, 56, 57, 65, 66, 67, 68, 69, 70] : Bs).getD (b.toNat % 16) 0]
def pathL (l : Bs) : Bs := l.flatMap encB
def baseL (t : Tgt) : Bs := pathL t.path ++ if t.query = [] then [] else 63 :: t.query
/-- The method and the text by which a target is tried. -/
def prS (t : Tgt) : Bs × Bs :=
  if t.form = 3 then (connB, t.host) else if t.form = 4 then (optB, [42]) else if t.form = 2 then ([71, 69, 84], httpB ++ t.host ++ baseL t) else ([71, 69, 84], baseL t)
def printL (t : Tgt) : Bs × Int := if parseL (prS t).1 (prS t).2 = (t, 0) then ((prS t).2, 0) else ([], 1)
def printV (r : Bs × Int) : Value := .tuple #[sv r.1, .int .i64 r.2]
theorem print_bad (t : Tgt) (h : ¬ okT t) : printL t = ([], 1) := by
  unfold printL
  rw [if_neg]
  intro hp
  exact h (parse_ok _ _ t hp)
theorem pathL_len (l : Bs) : (pathL l).length ≤ 3 * l.length := by
  induction l with
  | nil => simp [pathL]
  | cons b l ih =>
    have : (encB b).length ≤ 3 := by unfold encB; split <;> simp
    simp only [pathL, List.flatMap_cons, List.length_append, List.length_cons] at ih ⊢
    omega
theorem parse_dec (m s : Bs) (t : Tgt) : (parseL m s = (t, 0)) ∨ (parseL m s ≠ (t, 0)) := by
  by_cases h : parseL m s = (t, 0)
  · exact .inl h
  · exact .inr h
end Go.Proofs.YtlambdccmfnloaaGreatDoor
namespace Go.Proofs.YtlambdccmfnloaaGreatDoor
open Go.RowKit
set_option maxRecDepth 100000
set_option maxHeartbeats 2000000

theorem BU.alloc {w : World} {B b : Nat} {l : Bs} (h : BU w B b l) (o : Obj) : BU (w.alloc o) B b l := by
  have key : ∀ p, Lib.BuilderAt 159 5 B b p (l.map bv) w → Lib.BuilderAt 159 5 B b p (l.map bv) (w.alloc o) := by
    rintro p ⟨hB, v, hb, ho, hn⟩
    exact ⟨hB, v, by rw [Lib.alloc_old w o b (Array.getElem?_eq_some_iff.1 hb).1]; exact hb, ho.alloc _, hn⟩
  exact h.imp (key _) (key _)
theorem BU.drew {w : World} {B b : Nat} {l : Bs} (h : BU w B b l) : BU w.drew B b l := h
def uD (n : Nat) : UInt8 := ([48, 49, 50, 51, 52, 53, 54, 55, 56, 57, 65, 66, 67, 68, 69, 70] : Bs).getD n 0
theorem byteAll (p : UInt8 → Prop) [DecidablePred p] (h : ∀ x : Fin 256, p (UInt8.ofNat x.val)) (b : UInt8) : p b := by
  have := h ⟨b.toNat, b.toNat_lt⟩
  simpa using this
theorem uD_hi (b : UInt8) : PlainAid.bt ⟨#[48, 49, 50, 51, 52, 53, 54, 55, 56, 57, 65, 66, 67, 68, 69, 70]⟩ (b.toNat / 16) = ((uD (b.toNat / 16)).toNat : Int) :=
  byteAll (fun b => PlainAid.bt ⟨#[48, 49, 50, 51, 52, 53, 54, 55, 56, 57, 65, 66, 67, 68, 69, 70]⟩ (b.toNat / 16) = ((uD (b.toNat / 16)).toNat : Int)) (by decide +kernel) b
theorem uD_lo (b : UInt8) : PlainAid.bt ⟨#[48, 49, 50, 51, 52, 53, 54, 55, 56, 57, 65, 66, 67, 68, 69, 70]⟩ (b.toNat % 16) = ((uD (b.toNat % 16)).toNat : Int) :=
  byteAll (fun b => PlainAid.bt ⟨#[48, 49, 50, 51, 52, 53, 54, 55, 56, 57, 65, 66, 67, 68, 69, 70]⟩ (b.toNat % 16) = ((uD (b.toNat % 16)).toNat : Int)) (by decide +kernel) b
theorem encB_yes (b : UInt8) (h : ofB plainS b = true) : encB b = [b] := by rw [encB, if_pos h]
theorem encB_no (b : UInt8) (h : ofB plainS b = false) : encB b = [37, uD (b.toNat / 16), uD (b.toNat % 16)] := by rw [encB, if_neg (by rw [h]; decide)]; rfl
theorem pathL_one (l : Bs) (k : Nat) (b : UInt8) (h : l[k]? = some b) : pathL (l.take (k + 1)) = pathL (l.take k) ++ encB b := by
  rw [take_one l k b h]; simp [pathL]
theorem tgt_encoded (s : ByteArray) (w : World) (hs : s.size ≤ 4294967281) :
    Calls Tryz.prog 76 #[.string s] w fun e w' => e = .returned (sv (pathL s.data.toList)) ∧ Below w.heap.size w w' := by
  go_enter Tryz.func76, Tryz.ntmps76
  go_wp2
  go_loopw [8] (fun i wr => ∃ k : Nat, k ≤ s.size ∧ i = .int .i64 k ∧ BU wr w.heap.size w.heap.size (pathL (s.data.toList.take k)) ∧ Below w.heap.size w wr) (fun i _ => s.size - (intOf i).toNat)
  case atStart => exact ⟨0, Nat.zero_le _, rfl, BU.new w _ (Nat.le_refl _), allocW (Below.refl _ _) _⟩
  case round =>
    obtain ⟨k, hk, rfl, hu, L⟩ := hrel
    have hlen : (pathL (s.data.toList.take k)).length ≤ 3 * 4294967281 := Nat.le_trans (pathL_len _) (Nat.mul_le_mul_left _ (Nat.le_trans (List.length_take_le _ _) (by omega)))
    by_cases hlt : k < s.size
    · obtain ⟨b, hb, hbt⟩ := drop_bt s k hlt
      have hbs := PlainAid.get_bt s
      have hb8 := u8lt b
      have hkb : s.data.toList[k]? = some b := by rw [← List.head?_drop, hb]; rfl
      have hx : s.extract k (k + 1) = ⟨#[b]⟩ := str_ext (by rw [ext_data, hb, show k + 1 - k = 1 by omega]; rfl)
      have hP := Lib.hid (pathL_one _ k b hkb)
      have hof : allOf plainS [b] = ofB plainS b := by rw [allOf_cons]; show (ofB plainS b && true) = _; rw [Bool.and_true]
      have HL := Lib.hid hlen
      clear hb hkb hlen
      go_wp2_with fail
      refine (tgt_isOf ⟨#[b]⟩ _ _ (show (1 : Nat) ≤ maxLen by decide)).mono ?_
      rw [show (⟨#[45, 46, 95, 126, 33, 36, 38, 39, 40, 41, 42, 43, 44, 59, 61, 58, 64, 47]⟩ : ByteArray).data.toList = plainS from rfl, show (⟨#[b]⟩ : ByteArray).data.toList = [b] from rfl, hof]
      have hlen' := HL.out
      cases hO : ofB plainS b
      · have hE := encB_no b hO
        have HE := Lib.hid hE
        clear hE hof hO
        rintro e w1 ⟨rfl, rfl⟩
        have f1 := uD_hi b
        have f2 := uD_lo b
        have f3 : bits BinOp.and IntKind.u8 (b.toNat : Int) 15 = ((b.toNat % 16 : Nat) : Int) := by rw [u8_and15 (x := (b.toNat : Int)) (by omega) (by omega)]; omega
        have q1 : ((b.toNat : Int) % 16).toNat = b.toNat % 16 := by omega
        have q2 : (0 : Int) ≤ (b.toNat : Int) % 16 := by omega
        have q3 : (b.toNat : Int) % 16 < 16 := by omega
        have q4 : ((b.toNat : Int) / 16).toNat = b.toNat / 16 := by omega
        have q5 : (0 : Int) ≤ (b.toNat : Int) / 16 := by omega
        have q6 : (b.toNat : Int) / 16 < 16 := by omega
        have q7 : b.toNat % 16 < 16 := by omega
        have q8 : b.toNat / 16 < 16 := by omega
        have g2 := PlainAid.get_bt ⟨#[48, 49, 50, 51, 52, 53, 54, 55, 56, 57, 65, 66, 67, 68, 69, 70]⟩
        go_wp2
        go_still_tail 6, (by kernel_rfl)
        change wpList _ _ _ _ _ wr.drew
        have hu2 := hu.drew
        have L2 := L.drew
        clear hu L
        generalize wr.drew = w2 at hu2 L2 ⊢
        go_wp2_with fail
        have hu3 := hu2.alloc (.cells #[.int .u8 37, .int .u8 ((uD (b.toNat / 16)).toNat : Int), .int .u8 ((uD (b.toNat % 16)).toNat : Int)] 5)
        have hr3 : Rd (w2.alloc (.cells #[.int .u8 37, .int .u8 ((uD (b.toNat / 16)).toNat : Int), .int .u8 ((uD (b.toNat % 16)).toNat : Int)] 5)) (w2.heap.size + 1) 1 (some ⟨w2.heap.size, 0, none⟩) 3 (([37, uD (b.toNat / 16), uD (b.toNat % 16)] : Bs).map bv) := Rd.new w2 _ rfl [bv 37, bv (uD (b.toNat / 16)), bv (uD (b.toNat % 16))] _ 3 1 rfl
        have hlt2 : w.heap.size < w2.heap.size := by
          rcases hu2 with ⟨_, v, hb, _⟩ | ⟨_, v, hb, _⟩ <;> exact (Array.getElem?_eq_some_iff.1 hb).1
        have L3 := allocW L2 (.cells #[.int .u8 37, .int .u8 ((uD (b.toNat / 16)).toNat : Int), .int .u8 ((uD (b.toNat % 16)).toNat : Int)] 5)
        refine (bl_Write w.heap.size w.heap.size _ _ 3 3 [37, uD (b.toNat / 16), uD (b.toNat % 16)] _ hu3 _ (by simp) hr3 (fun g o e => by injection e with e; injection e with e; have := L2.size; have := hlt2; omega) (by omega) (by omega) L3.size).mono ?_
        rintro e w4 ⟨⟨v, rfl⟩, hu4, L4⟩
        go_wp2
        go_roundw
        case rel => exact ⟨k + 1, by omega, by go_num, by rw [hP.out, HE.out]; exact hu4, L3.trans L4⟩
        case measure => simp [intOf]; omega
      · have hE := encB_yes b hO
        have HE := Lib.hid hE
        clear hE hof hO
        rintro e w1 ⟨rfl, rfl⟩
        go_wp2_with fail
        refine (bl_WriteByte w.heap.size w.heap.size _ b wr hu (by omega) L.size).mono ?_
        rintro e w2 ⟨rfl, hu2, L2⟩
        go_wp2
        go_roundw
        case rel => exact ⟨k + 1, by omega, by go_num, by rw [hP.out, HE.out]; exact hu2, L.trans L2⟩
        case measure => simp [intOf]; omega
    · have e : s.data.toList.take k = s.data.toList := List.take_of_length_le (by rw [len_data]; omega)
      rw [e] at hu
      clear e
      go_wp2_with fail
      refine (bl_String _ _ _ wr hu L.size).mono ?_
      rintro e w2 ⟨rfl, L2⟩
      go_wp2
      go_ret
      exact ⟨rfl, L.trans L2⟩
end Go.Proofs.YtlambdccmfnloaaGreatDoor
