/-
  'ragpickerlaw01.WordsBack' returns true whatever its arguments, and leaves them as they were: the row's statement, and the card. Condition: the listed package-level tables hold what the program's text lays (tied by the card).
-/
import Derived.Test.YthapolbnodbhjaaDoorWordsBack
import Derived.Test.YthapolbnodbhjaaDoorCards
import Derived.Test.YthapolbnodbhjaaDoorTie
namespace Go.Proofs.YthapolbnodbhjaaDoor.lawWordsBack
open Go Go.RowKit Go.ChangeShapes Go.WideShapes Go.ChangeAt
theorem kinds24 : flatKinds Tryd.prog 5 24 = some [.i .i64, .i .u32, .b] := by kernel_rfl
theorem kinds43 : flatKinds Tryd.prog 5 43 = some [.i .u8, .i .u8, .i .u8, .i .u64] := by kernel_rfl
theorem contract (H : Type) (enc : TypeId × Value → H) (W : World) (base : Nat) (args : Array Value) (ds gs : List (DataW H)) (before : List MemPlace)
    (hval : ∀ (j : Nat) t v, Tryd.f7.params[j]? = some t → args[j]? = some v → Value.okWide Tryd.prog W .any base t v)
    (hW : DataW.Whole enc Tryd.prog Tryd.f7.params.toList Rows.wordsBackSpec.vars false W args.toList ds gs before) (hL : laidMet Tryd.prog Rows.wordsBackRow.laid W) :
    Calls Tryd.prog 7 args W fun e W' => ∃ v, e = .returned v ∧ Rows.wordsBackSpec.post enc Tryd.prog Tryd.f7 false true false false W args v W' := by
  have hW' := hW
  obtain ⟨p, q, hA0, hV, rfl, hfz, hnd⟩ := hW
  have hA : DataW.TrodAll enc Tryd.prog W 0 (fun _ => true) true Tryd.f7.params.toList args.toList ds p := hA0
  rw [Tryd.params7] at hA hval
  obtain ⟨v0, vs0, d0, ds0, p0, q0, hargs, rfl, rfl, h0, r0⟩ := trodAll_cons hA
  obtain ⟨v1, vs1, d1, ds1, p1, q1, rfl, rfl, rfl, h1, r1⟩ := trodAll_cons r0
  obtain ⟨v2, vs2, d2, ds2, p2, q2, rfl, rfl, rfl, h2, r2⟩ := trodAll_cons r1
  obtain ⟨rfl, rfl, rfl⟩ := trodAll_nil r2
  obtain rfl : args = #[v0, v1, v2] := by cases args; simp_all
  obtain ⟨cs0, rfl, hO0⟩ := open_flat kinds24 (by simp [Tryd.underlying24]) (hval 0 24 v0 rfl rfl) h0
  obtain ⟨x1, rfl, wx1⟩ := val_int Tryd.underlying25 (hval 1 25 v1 rfl rfl) h1
  obtain ⟨cs2, rfl, hO2⟩ := open_flat kinds43 (by simp [Tryd.underlying43]) (hval 2 43 v2 rfl rfl) h2
  refine (wordsBack_walk W (tabs_of hL (by simp [Rows.wordsBackRow])) cs0 hO0 x1 wx1 cs2 hO2).mono fun e W' ⟨he, hb⟩ => ?_
  subst he
  exact ⟨_, rfl, law_post (tb := 4) hW' rfl rfl laidOut (by kernel_rfl) (by kernel_rfl) Tryd.underlying4 hb⟩
theorem laid_met (os : Os) : laidMet Tryd.prog Rows.wordsBackRow.laid ((laidWorld os).forCall (fun _ _ => 0) ⟨#[], #[(Value.agg #[Value.int .i64 0, Value.int .u32 0, Value.bool false]), Value.int .u64 0, (Value.agg #[Value.int .u8 0, Value.int .u8 0, Value.int .u8 0, Value.int .u64 0])], []⟩).memory :=
  laidMet_of_run' 8 (by kernel_rfl) (by kernel_rfl)
theorem reads (os : Os) {H : Type} (enc : TypeId × Value → H) : ∃ places, DataW.whole enc Tryd.prog ((laidWorld os).forCall (fun _ _ => 0) ⟨#[], #[(Value.agg #[Value.int .i64 0, Value.int .u32 0, Value.bool false]), Value.int .u64 0, (Value.agg #[Value.int .u8 0, Value.int .u8 0, Value.int .u8 0, Value.int .u64 0])], []⟩).memory Tryd.f7.params.toList Rows.wordsBackSpec.vars false (#[(Value.agg #[Value.int .i64 0, Value.int .u32 0, Value.bool false]), Value.int .u64 0, (Value.agg #[Value.int .u8 0, Value.int .u8 0, Value.int .u8 0, Value.int .u64 0])] : Array Value).toList 8 = some ([.agg [.lit (.int .i64 0), .lit (.int .u32 0), .lit (.bool false)], .lit (.int .u64 0), .agg [.lit (.int .u8 0), .lit (.int .u8 0), .lit (.int .u8 0), .lit (.int .u64 0)]], [], places) :=
  ⟨[], by kernel_rfl⟩
set_option maxRecDepth 100000 in
theorem lifted (os : Os) (started : os.Started) (H : Type) (enc : TypeId × Value → H) (F : Stop.Interp) :
    ReturnsInHanded {} Tryd.checked os 7 .any ((OpenSpec.ofChange Rows.wordsBackSpec).preRow enc Tryd.prog Tryd.f7 Rows.wordsBackRow.domain false Rows.wordsBackRow.laid) (((OpenSpec.ofChange Rows.wordsBackSpec).at F).post enc Tryd.prog Tryd.f7 false true false false) := by
  obtain ⟨places, hx⟩ := reads os enc
  refine returnsInHanded_of_row (C := Tryd.checked) (s := OpenSpec.ofChange Rows.wordsBackSpec) own started (by kernel_rfl) Tryd.func7
    (witness_row_at (enc := enc) (C := Tryd.checked) false (laidWorld os) #[(Value.agg #[Value.int .i64 0, Value.int .u32 0, Value.bool false]), Value.int .u64 0, (Value.agg #[Value.int .u8 0, Value.int .u8 0, Value.int .u8 0, Value.int .u64 0])] rfl (by kernel_rfl) (by kernel_rfl) (by kernel_rfl)
      (OpenSpec.preRow_of_cond 8 hx (by kernel_rfl) (fun k hk => by cases hk) (by kernel_rfl) (laid_met os))) ?_
  intro W base args ds gs before hval hW _ _ _ hL _ _
  exact contract H enc W base args ds gs before hval hW hL
theorem said : Rows.WordsBackSaid :=
  OpenClaim.holds_of_cond 7 Tryd.f7 rfl rfl rfl rfl rfl rfl rfl ⟨rfl, rfl, rfl, rfl, rfl⟩ rfl rfl rfl rfl rfl (by kernel_rfl) Tryd.func7 (by kernel_rfl)
    (of_decide_eq_true (by kernel_rfl)) (by unfold Func.isWrapper; first | (rw [if_pos (by decide +kernel)]; kernel_rfl) | (rw [if_neg (by decide +kernel)]; exact ⟨rfl, rfl⟩))
    (fun os started H enc _ F => by rw [OpenClaim.pre_eq_preRow]; exact lifted os started H enc F)
theorem plain (f : FuncId) (fn : Func) (hf : Tryd.pinned.checked.prog.funcNamed "ragpicker/ragpickerlaw01.WordsBack" = some f) (hfn : Tryd.pinned.checked.prog.funcs[f]? = some fn) :
    false = Tryd.pinned.checked.prog.looks [] ∧ ∀ (j : Nat) t, fn.params[j]? = some t → Tryd.pinned.checked.prog.wantsStandIn t = false :=
  plain_of (P := Tryd.prog) (show Tryd.prog.funcNamed "ragpicker/ragpickerlaw01.WordsBack" = some 7 by kernel_rfl) Tryd.func7 (by kernel_rfl) (by kernel_rfl) hf hfn
theorem card : Rows.WordsBackCardSaid :=
  Claim7.holds_tied_plain_at .later [] _ _ _ _ said (fun _ h => by cases h) (by kernel_rfl) (fun _ h => by cases h) wordsBack_row_tie rfl ⟨rfl, rfl⟩ (by kernel_rfl) rfl plain (by kernel_rfl)
end Go.Proofs.YthapolbnodbhjaaDoor.lawWordsBack
