/- The law TargetParses. -/
import Derived.Test.YtfpojnijjpojlaaGreatDoorPrint
import Derived.Test.YtfpojnijjpojlaaGreatDoorTKnown
namespace Go.Proofs.YtfpojnijjpojlaaGreatDoor
open Go.RowKit
set_option maxRecDepth 100000
set_option maxHeartbeats 4000000

theorem parse_short (m s : Bs) (t : Tgt) (h : parseL m s = (t, 0)) : s.length ≤ 200 := by
  unfold parseL at h
  split at h
  · injection h with _ h; exact absurd h (by decide)
  · omega
/-- What a printed target was parsed with. -/
theorem print_pick (t : Tgt) (S : Bs) (h : printL t = (S, 0)) : S.length ≤ 200 ∧ (((t.form = 1 ∨ t.form = 2) ∧ parseL getB S = (t, 0)) ∨ (t.form = 3 ∧ parseL connB S = (t, 0)) ∨ (t.form = 4 ∧ parseL optB S = (t, 0))) := by
  unfold printL at h
  split at h
  · rename_i hp
    have hS : (prS t).2 = S := congrArg Prod.fst h
    obtain ⟨hf, -, -, -⟩ := parse_ok _ _ _ hp
    rw [hS] at hp
    refine ⟨parse_short _ _ _ hp, ?_⟩
    rcases hf with e | e | e | e
    · refine .inl ⟨.inl e, ?_⟩
      have hm : (prS t).1 = getB := by unfold prS; rw [if_neg (by rw [e]; decide), if_neg (by rw [e]; decide), if_neg (by rw [e]; decide)]; rfl
      rw [hm] at hp; exact hp
    · refine .inl ⟨.inr e, ?_⟩
      have hm : (prS t).1 = getB := by unfold prS; rw [if_neg (by rw [e]; decide), if_neg (by rw [e]; decide), if_pos e]; rfl
      rw [hm] at hp; exact hp
    · refine .inr (.inl ⟨e, ?_⟩)
      have hm : (prS t).1 = connB := by unfold prS; rw [if_pos e]
      rw [hm] at hp; exact hp
    · refine .inr (.inr ⟨e, ?_⟩)
      have hm : (prS t).1 = optB := by unfold prS; rw [if_neg (by rw [e]; decide), if_pos e]
      rw [hm] at hp; exact hp
  · injection h with _ h; exact absurd h (by decide)
theorem print_err (t : Tgt) (S : Bs) (e : Int) (h : printL t = (S, e)) : e = 0 ∨ e = 1 := by
  unfold printL at h
  split at h
  · exact .inl (congrArg Prod.snd h).symm
  · exact .inr (congrArg Prod.snd h).symm

theorem law_Parses (m s : ByteArray) (w : World) (bm : m.size ≤ 140737488355328) (bs : s.size ≤ 140737488355328) (hm : ML w) :
    Calls Tryz.prog 3 #[.string m, .string s] w fun e w' => e = .returned (.bool true) ∧ Below w.heap.size w w' := by
  by_cases hbig : 2000 < m.size + s.size
  · go_enter Tryz.func3, Tryz.ntmps3
    go_wp2
    go_ret
    exact ⟨rfl, Below.refl _ _⟩
  · go_enter Tryz.func3, Tryz.ntmps3
    go_wp2_with fail
    refine (tgt_Parse m s w (by omega) hm).mono ?_
    have HR : ∃ t er, parseL m.data.toList s.data.toList = (t, er) := ⟨_, _, rfl⟩
    obtain ⟨t, er, hr⟩ := HR
    have HR := Lib.hid hr
    rw [hr, tgR_mk]
    clear hr
    rintro e w1 ⟨rfl, L1⟩
    go_wp2_with fail
    obtain ⟨V1, hV1⟩ : ∃ V1, V1 = w1.alloc (.cells #[.int .i64 t.form, sv t.host, sv t.path, sv t.query] 23) := ⟨_, rfl⟩
    rw [← hV1]
    have LA : Below w.heap.size w V1 := by rw [hV1]; exact allocW L1 _
    have BA : Blk V1 w1.heap.size 23 #[.int .i64 t.form, sv t.host, sv t.path, sv t.query] := by rw [hV1]; exact Blk.new' _ _ rfl _ _
    clear hV1
    refine (ref11_Parse m s V1 (by omega)).mono ?_
    rw [HR.out, tgR_mk]
    rintro e w2 ⟨rfl, L2⟩
    have LB : Below w.heap.size w (w2.alloc (.cells #[.int .i64 t.form, sv t.host, sv t.path, sv t.query] 23)) := allocW (stepW LA L2) _
    have BB : Blk (w2.alloc (.cells #[.int .i64 t.form, sv t.host, sv t.path, sv t.query] 23)) w2.heap.size 23 #[.int .i64 t.form, sv t.host, sv t.path, sv t.query] := Blk.new' _ _ rfl _ _
    have BA2 : Blk (w2.alloc (.cells #[.int .i64 t.form, sv t.host, sv t.path, sv t.query] 23)) w1.heap.size 23 #[.int .i64 t.form, sv t.host, sv t.path, sv t.query] := (BA.belowW L2).alloc _
    have hlt12 : w1.heap.size < w2.heap.size := (BA.belowW L2).lt
    have hne12 : ¬ w1.heap.size = w2.heap.size := by omega
    clear BA LA L1 L2
    obtain ⟨a0, a1, a2, a3, -, -, -, -⟩ := BA2.c4
    obtain ⟨b0, b1, b2, b3, -, -, -, -⟩ := BB.c4
    have kq := fun w : World => run_neq_tg t t w
    rw [show tgEq t t = true by simp [tgEq]] at kq
    have kg := fun (o : Operand) (o' : Operand) (xs ys : Array Value) (w : World) => run_guard_tg .neq o o' xs ys w
    by_cases he0 : er = 0
    · subst he0
      obtain ⟨o1, o2, o3, o4⟩ := parse_ok _ _ _ HR.out
      go_wp2_with fail
      obtain ⟨V, hV⟩ : ∃ V, V = w2.alloc (.cells #[.int .i64 t.form, sv t.host, sv t.path, sv t.query] 23) := ⟨_, rfl⟩
      rw [← hV] at LB BB BA2 ⊢
      clear a0 a1 a2 a3 b0 b1 b2 b3 hV
      have hmV := hm.below LB (Nat.le_refl _)
      obtain ⟨S, e2, hp⟩ : ∃ S e2, printL t = (S, e2) := ⟨_, _, rfl⟩
      have HP := Lib.hid hp
      refine (tgt_Print t.form ⟨t.host.toArray⟩ ⟨t.path.toArray⟩ ⟨t.query.toArray⟩ V hmV (by show t.host.length ≤ _; omega) (by show t.path.length ≤ _; omega) (by show t.query.length ≤ _; omega)).mono ?_
      rw [show printL ⟨t.form, (⟨t.host.toArray⟩ : ByteArray).data.toList, (⟨t.path.toArray⟩ : ByteArray).data.toList, (⟨t.query.toArray⟩ : ByteArray).data.toList⟩ = (S, e2) from hp]
      clear hp
      unfold printV
      rintro e w3 ⟨rfl, L3⟩
      have LC := stepW LB L3
      have BA3 := BA2.belowW L3
      have BB3 := BB.belowW L3
      obtain ⟨b0, b1, b2, b3, -, -, -, -⟩ := BB3.c4
      clear BA2 BB LB L3 hmV
      go_wp2_with fail
      refine (ref11_Print t.form ⟨t.host.toArray⟩ ⟨t.path.toArray⟩ ⟨t.query.toArray⟩ w3).mono ?_
      rw [show printL ⟨t.form, (⟨t.host.toArray⟩ : ByteArray).data.toList, (⟨t.path.toArray⟩ : ByteArray).data.toList, (⟨t.query.toArray⟩ : ByteArray).data.toList⟩ = (S, e2) from HP.out]
      unfold printV
      rintro e w4 ⟨rfl, L4⟩
      have LD := stepW LC L4
      have BA4 := BA3.belowW L4
      have hmD := hm.below LD (Nat.le_refl _)
      clear b0 b1 b2 b3 BB3 BA3 LC L4
      obtain ⟨a0, a1, a2, a3, -, -, -, -⟩ := BA4.c4
      rcases print_err _ _ _ HP.out with rfl | rfl
      · obtain ⟨hSl, hpick⟩ := print_pick _ _ HP.out
        have kq2 := fun w : World => run_eql_tg t t w
        rw [show tgEq t t = true by simp [tgEq]] at kq2
        have kg2 := fun (o : Operand) (o' : Operand) (xs ys : Array Value) (w : World) => run_guard_tg .eql o o' xs ys w
        have fin : ∀ (w5 : World), Below w4.heap.size w4 w5 → Blk w5 w1.heap.size 23 #[.int .i64 t.form, sv t.host, sv t.path, sv t.query] ∧ Below w.heap.size w w5 := fun w5 L5 => ⟨BA4.belowW L5, stepW LD L5⟩
        clear kq kg
        rcases hpick with ⟨hf, hq⟩ | ⟨hf, hq⟩ | ⟨hf, hq⟩
        · have HQ := Lib.hid hq
          have f3 : (t.form == 3) = false := by rcases hf with h | h <;> rw [h] <;> rfl
          have f4 : (t.form == 4) = false := by rcases hf with h | h <;> rw [h] <;> rfl
          clear hq hf
          go_wp2_with fail
          refine (tgt_Parse ⟨getB.toArray⟩ ⟨S.toArray⟩ w4 (by show S.length < _; omega) hmD).mono ?_
          rw [show (⟨getB.toArray⟩ : ByteArray).data.toList = getB from rfl, show (⟨S.toArray⟩ : ByteArray).data.toList = S from rfl, HQ.out, tgR_mk]
          rintro e w5 ⟨rfl, L5⟩
          obtain ⟨BA5, LE⟩ := fin w5 L5
          obtain ⟨a0, a1, a2, a3, -, -, -, -⟩ := (BA5.alloc (.cells #[.int .i64 t.form, sv t.host, sv t.path, sv t.query] 23)).c4
          obtain ⟨b0, b1, b2, b3, -, -, -, -⟩ := (Blk.new' w5 w5.heap.size rfl 23 #[.int .i64 t.form, sv t.host, sv t.path, sv t.query]).c4
          have hne15 : ¬ w1.heap.size = w5.heap.size := by have := BA5.lt; omega
          have LF := allocW LE (.cells #[.int .i64 t.form, sv t.host, sv t.path, sv t.query] 23)
          clear L5 LE BA5 fin
          go_wp2_with fail
          refine (law11_known _ (hm.below LF (Nat.le_refl _))).mono ?_
          rintro e w6 ⟨rfl, L6⟩
          go_wp2
          go_ret
          exact ⟨rfl, stepW LF L6⟩
        · have HQ := Lib.hid hq
          have f3 : (t.form == 3) = true := by rw [hf]; rfl
          clear hq hf
          go_wp2_with fail
          refine (tgt_Parse ⟨connB.toArray⟩ ⟨S.toArray⟩ w4 (by show S.length < _; omega) hmD).mono ?_
          rw [show (⟨connB.toArray⟩ : ByteArray).data.toList = connB from rfl, show (⟨S.toArray⟩ : ByteArray).data.toList = S from rfl, HQ.out, tgR_mk]
          rintro e w5 ⟨rfl, L5⟩
          obtain ⟨BA5, LE⟩ := fin w5 L5
          obtain ⟨a0, a1, a2, a3, -, -, -, -⟩ := (BA5.alloc (.cells #[.int .i64 t.form, sv t.host, sv t.path, sv t.query] 23)).c4
          obtain ⟨b0, b1, b2, b3, -, -, -, -⟩ := (Blk.new' w5 w5.heap.size rfl 23 #[.int .i64 t.form, sv t.host, sv t.path, sv t.query]).c4
          have hne15 : ¬ w1.heap.size = w5.heap.size := by have := BA5.lt; omega
          have LF := allocW LE (.cells #[.int .i64 t.form, sv t.host, sv t.path, sv t.query] 23)
          clear L5 LE BA5 fin
          go_wp2_with fail
          refine (law11_known _ (hm.below LF (Nat.le_refl _))).mono ?_
          rintro e w6 ⟨rfl, L6⟩
          go_wp2
          go_ret
          exact ⟨rfl, stepW LF L6⟩
        · have HQ := Lib.hid hq
          have f3 : (t.form == 3) = false := by rw [hf]; rfl
          have f4 : (t.form == 4) = true := by rw [hf]; rfl
          clear hq hf
          go_wp2_with fail
          refine (tgt_Parse ⟨optB.toArray⟩ ⟨S.toArray⟩ w4 (by show S.length < _; omega) hmD).mono ?_
          rw [show (⟨optB.toArray⟩ : ByteArray).data.toList = optB from rfl, show (⟨S.toArray⟩ : ByteArray).data.toList = S from rfl, HQ.out, tgR_mk]
          rintro e w5 ⟨rfl, L5⟩
          obtain ⟨BA5, LE⟩ := fin w5 L5
          obtain ⟨a0, a1, a2, a3, -, -, -, -⟩ := (BA5.alloc (.cells #[.int .i64 t.form, sv t.host, sv t.path, sv t.query] 23)).c4
          obtain ⟨b0, b1, b2, b3, -, -, -, -⟩ := (Blk.new' w5 w5.heap.size rfl 23 #[.int .i64 t.form, sv t.host, sv t.path, sv t.query]).c4
          have hne15 : ¬ w1.heap.size = w5.heap.size := by have := BA5.lt; omega
          have LF := allocW LE (.cells #[.int .i64 t.form, sv t.host, sv t.path, sv t.query] 23)
          clear L5 LE BA5 fin
          go_wp2_with fail
          refine (law11_known _ (hm.below LF (Nat.le_refl _))).mono ?_
          rintro e w6 ⟨rfl, L6⟩
          go_wp2
          go_ret
          exact ⟨rfl, stepW LF L6⟩
      · clear kq kg a0 a1 a2 a3 BA4
        go_wp2_with fail
        refine (law11_known _ hmD).mono ?_
        rintro e w5 ⟨rfl, L5⟩
        go_wp2
        go_ret
        exact ⟨rfl, stepW LD L5⟩
    · have he1 : (er != 0) = true := by simpa using he0
      go_wp2_with fail
      refine (law11_known _ (hm.below LB (Nat.le_refl _))).mono ?_
      rintro e w5 ⟨rfl, L5⟩
      go_wp2
      go_ret
      exact ⟨rfl, stepW LB L5⟩
end Go.Proofs.YtfpojnijjpojlaaGreatDoor
