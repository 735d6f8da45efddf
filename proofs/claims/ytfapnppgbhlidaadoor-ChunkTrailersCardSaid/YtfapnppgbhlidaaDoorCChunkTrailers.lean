/- THE CARD OF 'usherlaw14.ChunkTrailers': fields behind the last chunk are told, up to eight of them. No condition. -/
import Derived.Test.YtfapnppgbhlidaaDoorKLaw5
import Derived.Test.YtfapnppgbhlidaaDoorOpen
import Derived.Test.YtfapnppgbhlidaaDoorEnd
import Derived.Test.YtfapnppgbhlidaaDoorCards
import Derived.ChangeMaps5
import Derived.SizedLaws
namespace Go.Proofs.YtfapnppgbhlidaaDoor.chunkTrailers
open Go.ChangeShapes Go.WideShapes Go.ChangeAt Go.RowKit
set_option maxRecDepth 100000
theorem gTab : Tryd.prog.globalNamed "internal/strconv.uint64pow10" = some 0 := by kernel_rfl
theorem tab {W : World} (h : laidMetH Tryd.prog Rows.chunkTrailersRow.laid W) : Tab10 W := by
  have h' : laidMet Tryd.prog Rows.chunkTrailersRow.laid W := h
  exact Lib.tabIs_of_head gTab (t := 85) (by kernel_rfl) Tryd.underlying85 Tryd.underlying67 (by kernel_rfl) (by kernel_rfl) h'.tail.tail
theorem gTz : Tryd.prog.globalNamed "math/bits.deBruijn64tab" = some 2 := by kernel_rfl
theorem tz {W : World} (h : laidMetH Tryd.prog Rows.chunkTrailersRow.laid W) : TZ W := by
  have h' : laidMet Tryd.prog Rows.chunkTrailersRow.laid W := h
  have h2 : Lib.TabIs Tryd.prog W "math/bits.deBruijn64tab" .u8 [0, 1, 56, 2, 57, 49, 28, 3, 61, 58, 42, 50, 38, 29, 17, 4, 62, 47, 59, 36, 45, 43, 51, 22, 53, 39, 33, 30, 24, 18, 12, 5, 63, 55, 48, 27, 60, 41, 37, 16, 46, 35, 44, 21, 52, 32, 23, 11, 54, 26, 40, 15, 34, 20, 31, 10, 25, 14, 19, 9, 13, 8, 7, 6] := Lib.tabIs_of_head gTz (t := 115) (by kernel_rfl) Tryd.underlying115 Tryd.underlying5 (by kernel_rfl) (by kernel_rfl) h'.tail
  exact h2.cell gTz 15 (by decide)
theorem ml {W : World} (h : W.ShapedOpen Tryd.prog) : ML W := Go.Proofs.cell_of_shapedOpen_int (zero := #[.int .i64 0]) (t := 3) h (of_decide_eq_true (by kernel_rfl)) (by kernel_rfl) rfl (by kernel_rfl) (by kernel_rfl) Tryd.underlying3
theorem laid_met (os : Os) (args : Array Value) : laidMet Tryd.prog Rows.chunkTrailersRow.laid ((World.laidAll Tryd.prog os Rows.chunkTrailersRow.laid).forCall (fun _ _ => 0) ⟨#[], args, []⟩).memory :=
  laidMet_laidAll args (by kernel_rfl) (by kernel_rfl)
theorem contract (H : Type) (enc : TypeId × Value → H) (W : World) (base : Nat) (args : Array Value) (ds gs : List (DataW H)) (before : List MemPlace)
    (hval : ∀ (j : Nat) t v, Tryd.f7.params[j]? = some t → args[j]? = some v → Value.okWide Tryd.prog W .any base t v)
    (hW : DataW.Whole enc Tryd.prog Tryd.f7.params.toList Rows.chunkTrailersSpec.vars false W args.toList ds gs before) (hL : laidMetH Tryd.prog Rows.chunkTrailersRow.laid W) (hsz : (DataW.weightsEach Tryd.prog (Tryd.f7.params.toList ++ []) (ds ++ gs)).all (· ≤ reachBytes) = true) (hSh : W.ShapedOpen Tryd.prog) :
    Calls Tryd.prog 7 args W fun e W' => ∃ v, e = .returned v ∧ Rows.chunkTrailersSpec.post enc Tryd.prog Tryd.f7 false true false false W args v W' := by
  have hW' := hW
  obtain ⟨p, q, hA, hV, -, -, -⟩ := hW
  rw [Tryd.params7] at hA hval hsz
  obtain ⟨v0, vs0, d0, ds0, p0, q0, hargs0, rfl, rfl, h0, r0⟩ := trodAll_cons hA
  obtain ⟨v1, vs1, d1, ds1, p1, q1, hargs1, rfl, rfl, h1, r1⟩ := trodAll_cons r0
  obtain ⟨rfl, rfl, rfl⟩ := trodAll_nil r1
  obtain rfl : args = #[v0, v1] := by cases args; simp_all
  obtain ⟨A1, n1, cp1, b1, rfl, hnc1, hcm1, hB1⟩ := open_bytes (hval 0 _ _ rfl rfl) h0
  obtain ⟨A, n, cp, l, rfl, hnc, hcm, hA1, hw⟩ := open_fds (hval 1 _ _ rfl rfl) h1
  have hz : ∀ m ∈ d1.weights Tryd.prog 35, m ≤ reachBytes := fun m hm => by simpa using List.all_eq_true.1 hsz m (DataW.weights_mem_each (j := 1) rfl rfl m hm)
  refine (law_Trailers A1 n1 cp1 b1 A n cp l W hB1 hA1 (fun f hf => ⟨Nat.le_trans (hz _ (hw f hf).1) (by decide), Nat.le_trans (hz _ (hw f hf).2) (by decide)⟩) (ml hSh) (tz hL)).mono fun e W' ⟨he, hb⟩ => ?_
  exact ⟨_, he, post_true kids0 full0 (by rw [Tryd.params7]; decide) hW' rfl rfl rfl rfl hb (by rfl) Tryd.underlying4⟩
theorem reads (os : Os) {H : Type} (enc : TypeId × Value → H) : ∃ places, DataW.whole enc Tryd.prog ((World.laidAll Tryd.prog os Rows.chunkTrailersRow.laid).forCall (fun _ _ => 0) ⟨#[], #[.slice none 0 0, .slice none 0 0], []⟩).memory Tryd.f7.params.toList Rows.chunkTrailersSpec.vars false (#[.slice none 0 0, .slice none 0 0] : Array Value).toList 8 = some ([.nil, .nil], [], places) :=
  ⟨[], by kernel_rfl⟩
theorem lifted (os : Os) (started : os.Started) (H : Type) (enc : TypeId × Value → H) (F : Stop.Interp) :
    ReturnsInHanded {} Tryd.checked os 7 .any ((OpenSpec.ofChange Rows.chunkTrailersSpec).preRow enc Tryd.prog Tryd.f7 Rows.chunkTrailersRow.domain false Rows.chunkTrailersRow.laid) (((OpenSpec.ofChange Rows.chunkTrailersSpec).at F).post enc Tryd.prog Tryd.f7 false true false false) := by
  obtain ⟨places, hx⟩ := reads os enc
  refine returnsInHanded_of_row (C := Tryd.checked) (s := OpenSpec.ofChange Rows.chunkTrailersSpec) own0 started (by kernel_rfl) Tryd.func7
    (witness_row_atRef (enc := enc) (C := Tryd.checked) false (World.laidAll Tryd.prog os Rows.chunkTrailersRow.laid) #[.slice none 0 0, .slice none 0 0] (World.laidAll_os _ _ _) (by kernel_rfl) (by kernel_rfl) (by kernel_rfl)
      (OpenSpec.preRow_of_cond 8 hx (by kernel_rfl) (fun k hk => by cases hk) (by kernel_rfl) (laid_met os _))) ?_
  intro W base args ds gs before hval hW _ _ hsz hL hSh _
  exact contract H enc W base args ds gs before hval hW hL hsz hSh
theorem said : Rows.ChunkTrailersSaid :=
  OpenClaim.holds_of_cond 7 Tryd.f7 rfl rfl rfl rfl rfl rfl rfl ⟨rfl, rfl, rfl, rfl, rfl⟩ rfl rfl rfl rfl rfl (by kernel_rfl) Tryd.func7 (by kernel_rfl)
    (of_decide_eq_true (by kernel_rfl)) (by unfold Func.isWrapper; first | (rw [if_pos (by decide +kernel)]; kernel_rfl) | (rw [if_neg (by decide +kernel)]; exact ⟨rfl, rfl⟩))
    (fun os started H enc _ F => by rw [OpenClaim.pre_eq_preRow]; exact lifted os started H enc F)
theorem stand0 : Tryd.prog.wantsStandIn 24 = false := by kernel_rfl
theorem stand1 : Tryd.prog.wantsStandIn 35 = false := by kernel_rfl
theorem plain (f : FuncId) (fn : Func) (hf : Tryd.pinned.checked.prog.funcNamed "usher/usherlaw14.ChunkTrailers" = some f) (hfn : Tryd.pinned.checked.prog.funcs[f]? = some fn) :
    true = Tryd.pinned.checked.prog.looks [] ∧ ∀ (j : Nat) t, fn.params[j]? = some t → Tryd.pinned.checked.prog.wantsStandIn t = false := by
  obtain rfl : f = 7 := Option.some.inj ((show Tryd.prog.funcNamed "usher/usherlaw14.ChunkTrailers" = some 7 by kernel_rfl).symm.trans hf) |>.symm
  obtain rfl : fn = Tryd.f7 := (Option.some.inj (Tryd.func7.symm.trans hfn)).symm
  refine ⟨by kernel_rfl, fun j t ht => ?_⟩
  rw [Tryd.params7] at ht
  have hm : t = 24 ∨ t = 35 := by simpa using Array.mem_of_getElem? ht
  rcases hm with rfl | rfl
  · exact stand0
  · exact stand1
/-- THE CARD. -/
theorem card : Rows.ChunkTrailersCardSaid :=
  Claim7.holds_tied_plain_at .later [] _ _ _ _ said (fun _ h => by cases h) (by kernel_rfl) (fun _ h => by cases h) chunkTrailers_row_tie rfl ⟨rfl, rfl⟩ (by kernel_rfl) rfl plain (by kernel_rfl)
end Go.Proofs.YtfapnppgbhlidaaDoor.chunkTrailers
