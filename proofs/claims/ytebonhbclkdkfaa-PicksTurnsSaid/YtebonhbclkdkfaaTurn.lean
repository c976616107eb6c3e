/-
  picks.Turn: whose turn it is behind a last one. No condition.
-/
import Derived.Test.YtebonhbclkdkfaaPick
import Derived.Test.YtebonhbclkdkfaaScope
namespace Go.Proofs.Ytebonhbclkdkfaa
open Go Go.RowKit Go.Shelf
attribute [local go_sem] Oper.semAt_some
theorem headN_snoc (l : List Nat) (x : Nat) (h : l ≠ []) : headN (l ++ [x]) = headN l := by
  cases l with
  | nil => exact absurd rfl h
  | cons a l => rfl
theorem headN_neg (l : List Nat) (h : l ≠ []) : 0 ≤ headN l := by
  cases l with
  | nil => exact absurd rfl h
  | cons a l => simp [headN]
set_option maxRecDepth 100000 in
set_option maxHeartbeats 4000000 in
theorem turn_in (F : Fence) (n : Nat) (h11 : F.fn 11) (h18 : F.fn 18) (h20 : F.fn 20) (hro : F.round = none) (hn : 3 ≤ n) (la : Int) (A : Option Addr) (len cap : Nat) (bs : List Bool) (hlen : bs.length = len) (hm : len ≤ 9223372036854775807) (w : World) (hS : Sl w w.heap.size 1 A len (Bs bs)) :
    CallsIn F n Try.prog 11 #[.int .i64 la, .slice A len cap] w fun e W' => e = .returned (.int .i64 (turnN la bs)) ∧ Below w.heap.size w W' := by
  have h1 : 1 ≤ n := by omega
  have HS := Lib.hid hS
  have HL := Lib.hid hlen
  clear hS hlen
  refine callsIn_of_wp_marks Try.func11 rfl h11 ?_ hro
  simp only [Try.ntmps11, List.size_toArray, List.length_cons, List.length_nil, Nat.reduceAdd, Nat.reduceSub, Array.replicate_succ, Array.replicate_zero, List.push_toArray, List.append_toArray, List.nil_append, List.cons_append]
  by_cases hla : (len : Int) ≤ la
  · have HLa : Hid (lastN la bs = -1) := by unfold Hid lastN; rw [if_pos (by rw [HL.out]; exact hla)]
    gi_wp2
    refine wpIn_scope ?_
    gi_wp2
    refine wpIn_label ?_
    gi_wp2_with (gi_at_call 18; refine (goers_in F (n - 1) h18 hro _ _ _ _).mono ?_; rintro e w' ⟨rfl, rfl⟩)
    have HR := Lib.hid (((Boxed.new w 3 (.int .i64 (-1))).alloc (.cells #[Value.int .i64 (-1)] 3)).alloc (.cells #[.slice A len cap] 22))
    have HM := Lib.hid ((Boxed.new (w.alloc (.cells #[Value.int .i64 (-1)] 3)) 3 (.int .i64 (-1))).alloc (.cells #[.slice A len cap] 22))
    have HN := Lib.hid (Boxed.new ((w.alloc (.cells #[Value.int .i64 (-1)] 3)).alloc (.cells #[Value.int .i64 (-1)] 3)) 22 (.slice A len cap))
    have HB : Hid (Below w.heap.size w (((w.alloc (.cells #[Value.int .i64 (-1)] 3)).alloc (.cells #[Value.int .i64 (-1)] 3)).alloc (.cells #[.slice A len cap] 22))) := (((Below.refl _ w).alloc (Nat.le_refl _) _).alloc (by simp) _).alloc (by simp; omega) _
    have hz : w.heap.size + 3 = (((w.alloc (.cells #[Value.int .i64 (-1)] 3)).alloc (.cells #[Value.int .i64 (-1)] 3)).alloc (.cells #[.slice A len cap] 22)).heap.size := by simp
    simp only [World.size_alloc] at HM HN
    generalize ((w.alloc (.cells #[Value.int .i64 (-1)] 3)).alloc (.cells #[Value.int .i64 (-1)] 3)).alloc (.cells #[.slice A len cap] 22) = w0 at HR HM HN HB hz ⊢
    refine wpIn_rangeFunc_ownG hro h1 (gf := 20) (lb := #[.pointer (some ⟨w.heap.size + 1 + 1, 0, none⟩)]) rfl h20 (enters_of Try.func20 (by kernel_rfl) rfl)
      (goers_stops F (n - 1) h20 hro (by omega) (w.heap.size + 1 + 1) w.heap.size len cap A bs HL.out hm w0 (by omega) (by omega) HN.out.cell (HS.out.below HB.out)) belowK_t (belowK_b (by omega)) (Below.refl _ _) (fun _ => rfl)
      (fun pre W => Boxed W w.heap.size 3 (.int .i64 (-1)) ∧ Boxed W (w.heap.size + 1) 3 (.int .i64 (headN pre)) ∧ (∀ y ∈ pre, ¬ (-1) < ((y : Nat) : Int)) ∧ Below w.heap.size w W)
      (fun c pre W => (c = .exit 0 ∧ ∃ ini x, pre = ini ++ [x] ∧ (∀ y ∈ ini, ¬ (-1) < ((y : Nat) : Int)) ∧ (-1) < ((x : Nat) : Int) ∧ Boxed W (w.heap.size + 1) 3 (.int .i64 ((x : Nat) : Int))) ∧ Below w.heap.size w W)
      (OwnFrom.and (ownFrom_box _ _ _ (fun _ => _)) (OwnFrom.and (ownFrom_box _ _ _ (fun (s : List Nat) => .int .i64 (headN s))) (OwnFrom.and (ownFrom_pure _ _) (ownFrom_below (Nat.le_refl _) (by omega)))))
      (fun c => OwnFrom.and (Own.from (fun s A B row hs hg hr => by
        obtain ⟨hc, ini, x, e1, e2, e3, e4⟩ := hs
        exact ⟨hc, ini, x, e1, e2, e3, boxed_own (w.heap.size + 1) 3 (fun (_ : Unit) => Value.int .i64 ((x : Nat) : Int)) () A B row e4 hg hr⟩) _) (ownFrom_below (Nat.le_refl _) (by omega)))
      ⟨HR.out, HM.out, by simp, HB.out⟩
      (fun x => { tmps := #[.int .i64 la, .slice A len cap, .pointer (some ⟨w.heap.size, 0, none⟩), undef, .int .i64 0, .pointer (some ⟨w.heap.size + 1, 0, none⟩), .int .i64 ((x : Nat) : Int), .int .i64 la, .slice A len cap, .int .i64 ((len : Nat) : Int), .bool true, .slice A len cap, .func (.func 20) #[] #[.pointer (some ⟨w.heap.size + 1 + 1, 0, none⟩)], .int .i64 ((x : Nat) : Int), undef, undef, undef, undef, undef, undef, undef, undef, undef, undef], defers := [] }) ?assign ?body ?done ?stop
    case assign =>
      intro l x W K hK
      gi_wp2
      exact hK
    case body =>
      rintro l pre x W ⟨hr, hk, hall, hB⟩ hl
      have hcr := hr.cell
      have hck := hk.cell
      have hfk := hk.frozen
      have HR3 := Lib.hid hr
      have HK3 := Lib.hid hk
      have HB3 := Lib.hid hB
      have HA3 := Lib.hid hall
      clear hr hk hB hall
      by_cases hx : (-1) < ((x : Nat) : Int)
      · gi_wp2
        exact ⟨(KeepsOthers.setCell _ _ _).from _, ⟨rfl, pre, x, rfl, HA3.out, by assumption, HK3.out.set _⟩, HB3.out.setCell (p := ⟨w.heap.size + 1, 0, none⟩) (by simp) _⟩
      · have HX := Lib.hid hx
        have hx2 : ((x : Nat) : Int) ≤ (-1) := by omega
        have HA4 : Hid (∀ y ∈ pre ++ [x], ¬ (-1) < ((y : Nat) : Int)) := by
          intro y hy
          rcases List.mem_append.1 hy with h | h
          · exact HA3.out y h
          · simp at h; subst h; exact HX.out
        clear hx
        by_cases hp : pre = []
        · subst hp
          have hq : W.cell? ⟨w.heap.size + 1, 0, none⟩ = some (.int .i64 (-1)) := hck
          clear hck
          gi_wp2
          all_goals exact ⟨(KeepsOthers.setCell _ _ _).from _, (Below.refl w.heap.size W).setCell (p := ⟨w.heap.size + 1, 0, none⟩) (by simp) _, HR3.out.other (by omega) _, HK3.out.set _, HA4.out, HB3.out.setCell (p := ⟨w.heap.size + 1, 0, none⟩) (by simp) _⟩
        · have hge := headN_neg pre hp
          have HE := Lib.hid (headN_snoc pre x hp)
          have hq : (headN pre == -1) = false := by rw [beq_eq_false_iff_ne]; omega
          clear hp
          generalize hh : headN pre = hd at hge hq hck HE HK3
          clear hh
          gi_wp2
          all_goals exact ⟨KeepsFrom.refl _ _, Below.refl _ _, HR3.out, by rw [HE.out]; exact HK3.out, HA4.out, HB3.out⟩
    case done =>
      rintro D ys W hD hys ⟨hr, hk, hall, hB⟩ hK
      have HE : Hid (turnN la bs = headN ys) := by unfold Hid; rw [hys]; exact turnN_none (by rw [HLa.out, ← hys]; exact hall)
      have hck := hk.cell
      clear hall hys
      gi_wp2
      refine ⟨by simp, .inl ⟨_, _, rfl, run_takeDeferred hK, ?_⟩⟩
      exact ⟨_, results_tmp rfl _ _ _, by rw [HE.out]; rfl, hB.trans (belowK_b (w := w) (Nat.le_refl _) W D _ _ (by omega) hK rfl rfl)⟩
    case stop =>
      rintro D c pre W hD hpre ⟨⟨rfl, ini, x, rfl, hall, hx, hk⟩, hB⟩ hK
      have HE : Hid (turnN la bs = ((x : Nat) : Int)) := turnN_some hpre (by rw [HLa.out]; exact hall) (by rw [HLa.out]; exact hx)
      have hck := hk.cell
      clear hall hx hpre
      gi_wp2
      refine ⟨by simp, .inl ⟨_, _, rfl, run_takeDeferred hK, ?_⟩⟩
      exact ⟨_, results_tmp rfl _ _ _, by rw [HE.out]; rfl, hB.trans (belowK_b (w := w) (Nat.le_refl _) W D _ _ (by omega) hK rfl rfl)⟩
  · have HLa : Hid (lastN la bs = la) := by unfold Hid lastN; rw [if_neg (by rw [HL.out]; exact hla)]
    have hq0 : decide ((len : Int) ≤ la) = false := by simpa using hla
    gi_wp2
    refine wpIn_scope ?_
    gi_wp2
    refine wpIn_label ?_
    gi_wp2_with (gi_at_call 18; refine (goers_in F (n - 1) h18 hro _ _ _ _).mono ?_; rintro e w' ⟨rfl, rfl⟩)
    have HR := Lib.hid (((Boxed.new w 3 (.int .i64 (la))).alloc (.cells #[Value.int .i64 (-1)] 3)).alloc (.cells #[.slice A len cap] 22))
    have HM := Lib.hid ((Boxed.new (w.alloc (.cells #[Value.int .i64 (la)] 3)) 3 (.int .i64 (-1))).alloc (.cells #[.slice A len cap] 22))
    have HN := Lib.hid (Boxed.new ((w.alloc (.cells #[Value.int .i64 (la)] 3)).alloc (.cells #[Value.int .i64 (-1)] 3)) 22 (.slice A len cap))
    have HB : Hid (Below w.heap.size w (((w.alloc (.cells #[Value.int .i64 (la)] 3)).alloc (.cells #[Value.int .i64 (-1)] 3)).alloc (.cells #[.slice A len cap] 22))) := (((Below.refl _ w).alloc (Nat.le_refl _) _).alloc (by simp) _).alloc (by simp; omega) _
    have hz : w.heap.size + 3 = (((w.alloc (.cells #[Value.int .i64 (la)] 3)).alloc (.cells #[Value.int .i64 (-1)] 3)).alloc (.cells #[.slice A len cap] 22)).heap.size := by simp
    simp only [World.size_alloc] at HM HN
    generalize ((w.alloc (.cells #[Value.int .i64 (la)] 3)).alloc (.cells #[Value.int .i64 (-1)] 3)).alloc (.cells #[.slice A len cap] 22) = w0 at HR HM HN HB hz ⊢
    refine wpIn_rangeFunc_ownG hro h1 (gf := 20) (lb := #[.pointer (some ⟨w.heap.size + 1 + 1, 0, none⟩)]) rfl h20 (enters_of Try.func20 (by kernel_rfl) rfl)
      (goers_stops F (n - 1) h20 hro (by omega) (w.heap.size + 1 + 1) w.heap.size len cap A bs HL.out hm w0 (by omega) (by omega) HN.out.cell (HS.out.below HB.out)) belowK_t (belowK_b (by omega)) (Below.refl _ _) (fun _ => rfl)
      (fun pre W => Boxed W w.heap.size 3 (.int .i64 (la)) ∧ Boxed W (w.heap.size + 1) 3 (.int .i64 (headN pre)) ∧ (∀ y ∈ pre, ¬ (la) < ((y : Nat) : Int)) ∧ Below w.heap.size w W)
      (fun c pre W => (c = .exit 0 ∧ ∃ ini x, pre = ini ++ [x] ∧ (∀ y ∈ ini, ¬ (la) < ((y : Nat) : Int)) ∧ (la) < ((x : Nat) : Int) ∧ Boxed W (w.heap.size + 1) 3 (.int .i64 ((x : Nat) : Int))) ∧ Below w.heap.size w W)
      (OwnFrom.and (ownFrom_box _ _ _ (fun _ => _)) (OwnFrom.and (ownFrom_box _ _ _ (fun (s : List Nat) => .int .i64 (headN s))) (OwnFrom.and (ownFrom_pure _ _) (ownFrom_below (Nat.le_refl _) (by omega)))))
      (fun c => OwnFrom.and (Own.from (fun s A B row hs hg hr => by
        obtain ⟨hc, ini, x, e1, e2, e3, e4⟩ := hs
        exact ⟨hc, ini, x, e1, e2, e3, boxed_own (w.heap.size + 1) 3 (fun (_ : Unit) => Value.int .i64 ((x : Nat) : Int)) () A B row e4 hg hr⟩) _) (ownFrom_below (Nat.le_refl _) (by omega)))
      ⟨HR.out, HM.out, by simp, HB.out⟩
      (fun x => { tmps := #[.int .i64 la, .slice A len cap, .pointer (some ⟨w.heap.size, 0, none⟩), undef, .int .i64 0, .pointer (some ⟨w.heap.size + 1, 0, none⟩), .int .i64 ((x : Nat) : Int), .int .i64 la, .slice A len cap, .int .i64 ((len : Nat) : Int), .bool false, .slice A len cap, .func (.func 20) #[] #[.pointer (some ⟨w.heap.size + 1 + 1, 0, none⟩)], .int .i64 ((x : Nat) : Int), undef, undef, undef, undef, undef, undef, undef, undef, undef, undef], defers := [] }) ?assign ?body ?done ?stop
    case assign =>
      intro l x W K hK
      gi_wp2
      exact hK
    case body =>
      rintro l pre x W ⟨hr, hk, hall, hB⟩ hl
      have hcr := hr.cell
      have hck := hk.cell
      have hfk := hk.frozen
      have HR3 := Lib.hid hr
      have HK3 := Lib.hid hk
      have HB3 := Lib.hid hB
      have HA3 := Lib.hid hall
      clear hr hk hB hall
      by_cases hx : (la) < ((x : Nat) : Int)
      · gi_wp2
        exact ⟨(KeepsOthers.setCell _ _ _).from _, ⟨rfl, pre, x, rfl, HA3.out, by assumption, HK3.out.set _⟩, HB3.out.setCell (p := ⟨w.heap.size + 1, 0, none⟩) (by simp) _⟩
      · have HX := Lib.hid hx
        have hx2 : ((x : Nat) : Int) ≤ (la) := by omega
        have HA4 : Hid (∀ y ∈ pre ++ [x], ¬ (la) < ((y : Nat) : Int)) := by
          intro y hy
          rcases List.mem_append.1 hy with h | h
          · exact HA3.out y h
          · simp at h; subst h; exact HX.out
        clear hx
        by_cases hp : pre = []
        · subst hp
          have hq : W.cell? ⟨w.heap.size + 1, 0, none⟩ = some (.int .i64 (-1)) := hck
          clear hck
          gi_wp2
          all_goals exact ⟨(KeepsOthers.setCell _ _ _).from _, (Below.refl w.heap.size W).setCell (p := ⟨w.heap.size + 1, 0, none⟩) (by simp) _, HR3.out.other (by omega) _, HK3.out.set _, HA4.out, HB3.out.setCell (p := ⟨w.heap.size + 1, 0, none⟩) (by simp) _⟩
        · have hge := headN_neg pre hp
          have HE := Lib.hid (headN_snoc pre x hp)
          have hq : (headN pre == -1) = false := by rw [beq_eq_false_iff_ne]; omega
          clear hp
          generalize hh : headN pre = hd at hge hq hck HE HK3
          clear hh
          gi_wp2
          all_goals exact ⟨KeepsFrom.refl _ _, Below.refl _ _, HR3.out, by rw [HE.out]; exact HK3.out, HA4.out, HB3.out⟩
    case done =>
      rintro D ys W hD hys ⟨hr, hk, hall, hB⟩ hK
      have HE : Hid (turnN la bs = headN ys) := by unfold Hid; rw [hys]; exact turnN_none (by rw [HLa.out, ← hys]; exact hall)
      have hck := hk.cell
      clear hall hys
      gi_wp2
      refine ⟨by simp, .inl ⟨_, _, rfl, run_takeDeferred hK, ?_⟩⟩
      exact ⟨_, results_tmp rfl _ _ _, by rw [HE.out]; rfl, hB.trans (belowK_b (w := w) (Nat.le_refl _) W D _ _ (by omega) hK rfl rfl)⟩
    case stop =>
      rintro D c pre W hD hpre ⟨⟨rfl, ini, x, rfl, hall, hx, hk⟩, hB⟩ hK
      have HE : Hid (turnN la bs = ((x : Nat) : Int)) := turnN_some hpre (by rw [HLa.out]; exact hall) (by rw [HLa.out]; exact hx)
      have hck := hk.cell
      clear hall hx hpre
      gi_wp2
      refine ⟨by simp, .inl ⟨_, _, rfl, run_takeDeferred hK, ?_⟩⟩
      exact ⟨_, results_tmp rfl _ _ _, by rw [HE.out]; rfl, hB.trans (belowK_b (w := w) (Nat.le_refl _) W D _ _ (by omega) hK rfl rfl)⟩
end Go.Proofs.Ytebonhbclkdkfaa
