/-
  picks.Pick: the one picked by a number. No condition.
-/
import Derived.Test.YtebonhbclkdkfaaIter
namespace Go.Proofs.Ytebonhbclkdkfaa
open Go Go.RowKit Go.Shelf
attribute [local go_sem] Oper.semAt_some
theorem ownFrom_at {β : Type} {B D : Nat} (o : Obj) (hD : D < B) : OwnFrom B (fun (_ : β) W => W.heap[D]? = some o) :=
  fun _ _ _ row hs hg hr => (hg.block D (Array.getElem?_eq_some_iff.1 hs).1 (fun e => by have := (hr D e.symm).1; omega)).trans hs
theorem ownFrom_box {β : Type} (C B : Nat) (t : TypeId) (f : β → Value) : OwnFrom C (fun s W => Boxed W B t (f s)) := Own.from (boxed_own B t f) C
set_option maxRecDepth 100000 in
set_option maxHeartbeats 4000000 in
theorem pick_in (F : Fence) (n : Nat) (h9 : F.fn 9) (h18 : F.fn 18) (h20 : F.fn 20) (hro : F.round = none) (hn : 3 ≤ n) (ni : Int) (A : Option Addr) (len cap : Nat) (bs : List Bool) (hlen : bs.length = len) (hm : len ≤ 9223372036854775807) (w : World) (hS : Sl w w.heap.size 1 A len (Bs bs)) :
    CallsIn F n Try.prog 9 #[.int .i64 ni, .slice A len cap] w fun e W' => e = .returned (.int .i64 (pickN ni bs)) ∧ Below w.heap.size w W' := by
  have h1 : 1 ≤ n := by omega
  have HS := Lib.hid hS
  have HL := Lib.hid hlen
  clear hS hlen
  refine callsIn_of_wp_marks Try.func9 rfl h9 ?_ hro
  simp only [Try.ntmps9, List.size_toArray, List.length_cons, List.length_nil, Nat.reduceAdd, Nat.reduceSub, Array.replicate_succ, Array.replicate_zero, List.push_toArray, List.append_toArray, List.nil_append, List.cons_append]
  gi_wp2_with (gi_at_call 18; refine (goers_in F (n - 1) h18 hro _ _ _ _).mono ?_; rintro e w' ⟨rfl, rfl⟩)
  have HR := Lib.hid (((Boxed.new w 3 (.int .i64 0)).alloc (.cells #[Value.int .i64 0] 3)).alloc (.cells #[.slice A len cap] 22))
  have HM := Lib.hid ((Boxed.new (w.alloc (.cells #[Value.int .i64 0] 3)) 3 (.int .i64 0)).alloc (.cells #[.slice A len cap] 22))
  have HN := Lib.hid (Boxed.new ((w.alloc (.cells #[Value.int .i64 0] 3)).alloc (.cells #[Value.int .i64 0] 3)) 22 (.slice A len cap))
  have HB : Hid (Below w.heap.size w (((w.alloc (.cells #[Value.int .i64 0] 3)).alloc (.cells #[Value.int .i64 0] 3)).alloc (.cells #[.slice A len cap] 22))) := (((Below.refl _ w).alloc (Nat.le_refl _) _).alloc (by simp) _).alloc (by simp; omega) _
  have hz : w.heap.size + 3 = (((w.alloc (.cells #[Value.int .i64 0] 3)).alloc (.cells #[Value.int .i64 0] 3)).alloc (.cells #[.slice A len cap] 22)).heap.size := by simp
  simp only [World.size_alloc] at HM HN
  generalize ((w.alloc (.cells #[Value.int .i64 0] 3)).alloc (.cells #[Value.int .i64 0] 3)).alloc (.cells #[.slice A len cap] 22) = w0 at HR HM HN HB hz ⊢
  refine wpIn_rangeFunc_ownG hro h1 (gf := 20) (lb := #[.pointer (some ⟨w.heap.size + 1 + 1, 0, none⟩)]) rfl h20 (enters_of Try.func20 (by kernel_rfl) rfl)
    (goers_stops F (n - 1) h20 hro (by omega) (w.heap.size + 1 + 1) w.heap.size len cap A bs HL.out hm w0 (by omega) (by omega) HN.out.cell (HS.out.below HB.out)) belowK_t (belowK_b (by omega)) (Below.refl _ _) (fun _ => rfl)
    (fun pre W => Boxed W w.heap.size 3 (.int .i64 0) ∧ Boxed W (w.heap.size + 1) 3 (.int .i64 ((pre.length : Nat) : Int)) ∧ Below w.heap.size w W)
    (fun _ _ _ => False)
    (OwnFrom.and (ownFrom_box _ _ _ (fun _ => _)) (OwnFrom.and (ownFrom_box _ _ _ (fun (s : List Nat) => .int .i64 ((s.length : Nat) : Int))) (ownFrom_below (Nat.le_refl _) (by omega))))
    (fun _ _ _ _ _ hs _ _ => hs)
    ⟨HR.out, HM.out, HB.out⟩
    (fun x => { tmps := #[.int .i64 ni, .slice A len cap, undef, undef, .pointer (some ⟨w.heap.size, 0, none⟩), .pointer (some ⟨w.heap.size + 1, 0, none⟩), undef, undef, .slice A len cap, .func (.func 20) #[] #[.pointer (some ⟨w.heap.size + 1 + 1, 0, none⟩)], .int .i64 ((x : Nat) : Int), undef, undef, undef, undef, undef, undef, undef, undef, undef, undef, undef, undef, undef, undef, undef, undef], defers := [] }) ?assign ?body ?done ?stop
  case assign =>
    intro l x W K hK
    gi_wp2
    simpa using hK
  case body =>
    rintro l pre x W ⟨hr, hk, hB⟩ hl
    have hc := hk.cell
    have hf := hk.frozen
    gi_wp2
    refine ⟨(KeepsOthers.setCell _ _ _).from _, (Below.refl w.heap.size W).setCell (p := ⟨w.heap.size + 1, 0, none⟩) (by simp) _, hr.other (by omega) _, ?_, hB.setCell (p := ⟨w.heap.size + 1, 0, none⟩) (by simp) _⟩
    have := hk.set (.int .i64 (((pre ++ [x]).length : Nat) : Int))
    simpa using this
  case stop =>
    rintro D c pre W _ _ h _
    exact h.elim
  case done =>
    rintro D ys W hD rfl ⟨hr, hk, hB⟩ hK
    have hc := hk.cell
    have hf := hk.frozen
    have hcr := hr.cell
    have hfr := hr.frozen
    have HY := Lib.hid hk
    have HR2 := Lib.hid hr
    have HB2 := Lib.hid hB
    have HK := Lib.hid hK
    clear hk hr hB hK
    -- TAIL
    obtain ⟨m, hmE⟩ : ∃ m, m = (gs bs).length := ⟨_, rfl⟩
    rw [← hmE] at hc HY
    have hmm := Lib.hid hmE
    have hml : m ≤ 9223372036854775807 := by
      have := gsU_len bs bs.length
      have h2 := HL.out
      have h3 : m ≤ bs.length := by rw [hmE]; exact this
      omega
    have hsz3 := HB2.out.size
    clear hmE
    by_cases hm0 : m = 0
    · have hq : (((m : Nat) : Int) == 0) = true := by simp [hm0]
      have HE : Hid (pickN ni bs = -1) := by unfold Hid pickN; rw [if_pos (by rw [← hmm.out]; exact hm0)]
      clear hm0
      gi_wp2
      have hK' := (KeepsOthers.setCell W ⟨w.heap.size, 0, none⟩ (.int .i64 (-1))).same D _ HK.out rfl
      refine ⟨by simp, .inl ⟨_, _, rfl, run_takeDeferred hK', ?_⟩⟩
      have hc5 := cell_kept (World.cell?_setCell_same' W ⟨w.heap.size, 0, none⟩ (.int .i64 (-1)) (by rw [hcr]; rfl)) (grownBy_putObj' _ D (.deferred none)) (fun r e => by cases e; exact ⟨_, hK', rfl⟩)
      refine ⟨.int .i64 (-1), ?_, by rw [HE.out], (HB2.out.setCell (p := ⟨w.heap.size, 0, none⟩) (Nat.le_refl _) _).trans (belowK_b (w := w) (Nat.le_refl _) _ D _ _ (by omega) hK' rfl rfl)⟩
      simp [results, Try.f9, go_sem, hc5]
    · have hq : (((m : Nat) : Int) == 0) = false := by simp; omega
      have hmp : 0 < m := by omega
      clear hm0
      by_cases hn0 : ni < 0
      · obtain ⟨lf, hlf0⟩ : ∃ lf : Nat, lf = 0 := ⟨_, rfl⟩
        have hlf : Hid (((lf : Nat) : Int) = 0) := by unfold Hid; omega
        have hlt : lf < m := by omega
        have hlf2 : Hid (lf = ni.toNat % m) := by unfold Hid; rw [show ni.toNat = 0 by omega]; simp [hlf0]
        clear hlf0
        gi_wp2_with (gi_at_call 18; refine (goers_in F (n - 1) h18 hro _ _ _ _).mono ?_; rintro e w' ⟨rfl, rfl⟩)
        have bR := (HR2.out.alloc (.cells #[Value.int .i64 (0)] 3)).alloc (.cells #[.slice A len cap] 22)
        have bL := (Boxed.new W 3 (.int .i64 (0))).alloc (.cells #[.slice A len cap] 22)
        have bN := Boxed.new (W.alloc (.cells #[Value.int .i64 (0)] 3)) 22 (.slice A len cap)
        have bB : Below w.heap.size w ((W.alloc (.cells #[Value.int .i64 (0)] 3)).alloc (.cells #[.slice A len cap] 22)) := (HB2.out.alloc HB2.out.size _).alloc (by have := HB2.out.size; simp; omega) _
        have hDl : D < W.heap.size := (Array.getElem?_eq_some_iff.1 HK.out).1
        have bD : ((W.alloc (.cells #[Value.int .i64 (0)] 3)).alloc (.cells #[.slice A len cap] 22)).heap[D]? = some (.deferred (some [])) := (Below.heap_alloc _ _ _ (by simp; omega)).trans ((Below.heap_alloc _ _ _ hDl).trans HK.out)
        have bz : W.heap.size + 2 = ((W.alloc (.cells #[Value.int .i64 (0)] 3)).alloc (.cells #[.slice A len cap] 22)).heap.size := by simp
        have hbs := HB2.out.size
        simp only [World.size_alloc] at bN
        generalize hLB : W.heap.size = LB at bL bN bz hDl hbs ⊢
        generalize (W.alloc (.cells #[Value.int .i64 (0)] 3)).alloc (.cells #[.slice A len cap] 22) = w2 at bR bL bN bB bD bz ⊢
        have HS2 : Hid (Sl w2 w.heap.size 1 A len (Bs bs)) := HS.out.below bB
        clear hLB hc hf hcr hfr HR2 HB2 HK
        refine wpIn_rangeFunc_ownG hro h1 (gf := 20) (lb := #[.pointer (some ⟨LB + 1, 0, none⟩)]) rfl h20 (enters_of Try.func20 (by kernel_rfl) rfl)
          (goers_stops F (n - 1) h20 hro (by omega) (LB + 1) w.heap.size len cap A bs HL.out hm w2 (by omega) (by omega) bN.cell HS2.out) belowK_t (belowK_b (by omega)) (Below.refl _ _) (fun _ => rfl)
          (fun pre W => Boxed W w.heap.size 3 (.int .i64 0) ∧ Boxed W LB 3 (.int .i64 ((lf : Int) - ((pre.length : Nat) : Int))) ∧ pre.length ≤ lf ∧ W.heap[D]? = some (.deferred (some [])) ∧ Below w.heap.size w W)
          (fun c pre W => (c = .ret ∧ ∃ ini x, pre = ini ++ [x] ∧ ini.length = lf ∧ Boxed W w.heap.size 3 (.int .i64 ((x : Nat) : Int))) ∧ W.heap[D]? = some (.deferred (some [])) ∧ Below w.heap.size w W)
          (OwnFrom.and (ownFrom_box _ _ _ (fun _ => _)) (OwnFrom.and (ownFrom_box _ _ _ (fun (s : List Nat) => .int .i64 ((lf : Int) - ((s.length : Nat) : Int)))) (OwnFrom.and (ownFrom_pure _ _) (OwnFrom.and (ownFrom_at _ (by omega)) (ownFrom_below (Nat.le_refl _) (by omega))))))
          (fun c => OwnFrom.and (Own.from (fun s A B row hs hg hr => by
            obtain ⟨hc, ini, x, e1, e2, e3⟩ := hs
            exact ⟨hc, ini, x, e1, e2, boxed_own w.heap.size 3 (fun (_ : Unit) => Value.int .i64 ((x : Nat) : Int)) () A B row e3 hg hr⟩) _) (OwnFrom.and (ownFrom_at _ (by omega)) (ownFrom_below (Nat.le_refl _) (by omega))))
          ⟨bR, by rw [hlf.out]; simpa using bL, Nat.zero_le _, bD, bB⟩
          (fun x => { tmps := #[.int .i64 ni, .slice A len cap, undef, undef, .pointer (some ⟨w.heap.size, 0, none⟩), .pointer (some ⟨w.heap.size + 1, 0, none⟩), .pointer (some ⟨LB, 0, none⟩), .int .i64 ((x : Nat) : Int), .slice A len cap, .func (.func 20) #[] #[.pointer (some ⟨w.heap.size + 1 + 1, 0, none⟩)], undef, undef, undef, .int .i64 ((m : Nat) : Int), .bool false, .int .i64 ni, .int .i64 (0), .int .i64 ((m : Nat) : Int), .int .i64 (0), .slice A len cap, .func (.func 20) #[] #[.pointer (some ⟨LB + 1, 0, none⟩)], .int .i64 ((x : Nat) : Int), undef, undef, undef, undef, undef], defers := [] }) ?assign ?body ?done ?stop
        case assign =>
          intro l x W K hK
          gi_wp2
          exact hK
        case body =>
          rintro l pre x W ⟨hr, hk, hle, hD2, hB⟩ hl
          have hcr := hr.cell
          have hfr := hr.frozen
          have hfl := hk.frozen
          have hcl := hk.cell
          have HR3 := Lib.hid hr
          have HK3 := Lib.hid hk
          have HD3 := Lib.hid hD2
          have HB3 := Lib.hid hB
          clear hr hk hD2 hB
          by_cases hp : pre.length = lf
          · have hcl0 : W.cell? ⟨LB, 0, none⟩ = some (.int .i64 0) := by rw [hcl, hp]; simp
            have HP := Lib.hid hp
            clear hp hcl
            gi_wp2
            exact ⟨(KeepsOthers.setCell _ _ _).from _, ⟨rfl, pre, x, rfl, HP.out, HR3.out.set _⟩, (Below.heap_setCell _ _ _ _ (by simp; omega)).trans HD3.out, HB3.out.setCell (p := ⟨w.heap.size, 0, none⟩) (Nat.le_refl _) _⟩
          · have hd : (lf : Int) - ((pre.length : Nat) : Int) = ((lf - pre.length : Nat) : Int) := by omega
            obtain ⟨d, hd0⟩ : ∃ d, d = lf - pre.length := ⟨_, rfl⟩
            rw [hd, ← hd0] at hcl
            have hd1 : 0 < d := by omega
            have hd2 : d ≤ 9223372036854775807 := by omega
            have hq : (((d : Nat) : Int) == 0) = false := by simp; omega
            have HP : Hid ((d : Int) = (lf : Int) - ((pre.length : Nat) : Int)) := by rw [hd0]; exact hd.symm
            have HL2 : Hid (pre.length + 1 ≤ lf) := by unfold Hid; omega
            clear hp hd hd0
            gi_wp2
            refine ⟨(KeepsOthers.setCell _ _ _).from _, (Below.refl w.heap.size W).setCell (p := ⟨LB, 0, none⟩) (by simp; omega) _, HR3.out.other (by omega) _, ?_, by simpa using HL2.out, (Below.heap_setCell _ _ _ _ (by simp; omega)).trans HD3.out, HB3.out.setCell (p := ⟨LB, 0, none⟩) (by simp; omega) _⟩
            have e : (lf : Int) - (((pre ++ [x]).length : Nat) : Int) = (d : Int) - 1 := by rw [HP.out]; simp; omega
            rw [e]
            exact HK3.out.set _
        case done =>
          rintro D2 ys W hD hys ⟨hr, hk, hle, hD2, hB⟩ hK
          exfalso
          rw [hys] at hle
          have := hmm.out
          omega
        case stop =>
          rintro D2 c pre W hDD hpre ⟨⟨rfl, ini, x, rfl, hil, hr⟩, hD2, hB⟩ hK
          have HE : Hid (pickN ni bs = ((x : Nat) : Int)) := by
            obtain ⟨r, hr2⟩ := hpre
            unfold Hid pickN
            rw [if_neg (by have := hmm.out; omega), ← hmm.out, ← hlf2.out, ← hr2, ← hil]
            simp
          have hcr := hr.cell
          have hfr := hr.frozen
          clear hpre hil
          gi_wp2
          have hD2' := (World.putObj_heap_other (w := W) (r := D2) (k := D) (o := .deferred none) (by omega)).trans hD2
          refine ⟨by simp, .inl ⟨_, _, rfl, run_takeDeferred hK, ?_⟩⟩
          refine ⟨by simp, .inl ⟨_, _, rfl, run_takeDeferred hD2', ?_⟩⟩
          have hc5 := cell_kept (cell_kept hcr (grownBy_putObj' _ D2 (.deferred none)) (fun r e => by cases e; exact ⟨_, hK, rfl⟩)) (grownBy_putObj' _ D (.deferred none)) (fun r e => by cases e; exact ⟨_, hD2', rfl⟩)
          refine ⟨.int .i64 ((x : Nat) : Int), ?_, by rw [HE.out], (hB.trans (belowK_b (w := w) (Nat.le_refl _) W D2 _ _ (by omega) hK rfl rfl)).trans (belowK_b (w := w) (Nat.le_refl _) _ D _ _ (by omega) hD2' rfl rfl)⟩
          simp [results, Try.f9, go_sem, hc5]
      · have hn1 : 0 ≤ ni := by omega
        have hmi : 0 ≤ ni % ((m : Nat) : Int) := Int.emod_nonneg _ (by omega)
        have hml2 : ni % ((m : Nat) : Int) < ((m : Nat) : Int) := Int.emod_lt_of_pos _ (by omega)
        obtain ⟨lf, hlf0⟩ : ∃ lf : Nat, lf = (ni % ((m : Nat) : Int)).toNat := ⟨_, rfl⟩
        have hlf : Hid (((lf : Nat) : Int) = ni % ((m : Nat) : Int)) := by unfold Hid; omega
        have hlt : lf < m := by omega
        have hlf2 : Hid (lf = ni.toNat % m) := by
          obtain ⟨k, rfl⟩ := Int.eq_ofNat_of_zero_le hn1
          unfold Hid
          have e : ((k : Int) % ((m : Nat) : Int)) = ((k % m : Nat) : Int) := (Int.natCast_emod k m).symm
          rw [hlf0, e, Int.toNat_natCast, Int.toNat_natCast]
        clear hlf0 hmi hml2 hn0
        gi_wp2_with (gi_at_call 18; refine (goers_in F (n - 1) h18 hro _ _ _ _).mono ?_; rintro e w' ⟨rfl, rfl⟩)
        have bR := (HR2.out.alloc (.cells #[Value.int .i64 (ni % ((m : Nat) : Int))] 3)).alloc (.cells #[.slice A len cap] 22)
        have bL := (Boxed.new W 3 (.int .i64 (ni % ((m : Nat) : Int)))).alloc (.cells #[.slice A len cap] 22)
        have bN := Boxed.new (W.alloc (.cells #[Value.int .i64 (ni % ((m : Nat) : Int))] 3)) 22 (.slice A len cap)
        have bB : Below w.heap.size w ((W.alloc (.cells #[Value.int .i64 (ni % ((m : Nat) : Int))] 3)).alloc (.cells #[.slice A len cap] 22)) := (HB2.out.alloc HB2.out.size _).alloc (by have := HB2.out.size; simp; omega) _
        have hDl : D < W.heap.size := (Array.getElem?_eq_some_iff.1 HK.out).1
        have bD : ((W.alloc (.cells #[Value.int .i64 (ni % ((m : Nat) : Int))] 3)).alloc (.cells #[.slice A len cap] 22)).heap[D]? = some (.deferred (some [])) := (Below.heap_alloc _ _ _ (by simp; omega)).trans ((Below.heap_alloc _ _ _ hDl).trans HK.out)
        have bz : W.heap.size + 2 = ((W.alloc (.cells #[Value.int .i64 (ni % ((m : Nat) : Int))] 3)).alloc (.cells #[.slice A len cap] 22)).heap.size := by simp
        have hbs := HB2.out.size
        simp only [World.size_alloc] at bN
        generalize hLB : W.heap.size = LB at bL bN bz hDl hbs ⊢
        generalize (W.alloc (.cells #[Value.int .i64 (ni % ((m : Nat) : Int))] 3)).alloc (.cells #[.slice A len cap] 22) = w2 at bR bL bN bB bD bz ⊢
        have HS2 : Hid (Sl w2 w.heap.size 1 A len (Bs bs)) := HS.out.below bB
        clear hLB hc hf hcr hfr HR2 HB2 HK
        refine wpIn_rangeFunc_ownG hro h1 (gf := 20) (lb := #[.pointer (some ⟨LB + 1, 0, none⟩)]) rfl h20 (enters_of Try.func20 (by kernel_rfl) rfl)
          (goers_stops F (n - 1) h20 hro (by omega) (LB + 1) w.heap.size len cap A bs HL.out hm w2 (by omega) (by omega) bN.cell HS2.out) belowK_t (belowK_b (by omega)) (Below.refl _ _) (fun _ => rfl)
          (fun pre W => Boxed W w.heap.size 3 (.int .i64 0) ∧ Boxed W LB 3 (.int .i64 ((lf : Int) - ((pre.length : Nat) : Int))) ∧ pre.length ≤ lf ∧ W.heap[D]? = some (.deferred (some [])) ∧ Below w.heap.size w W)
          (fun c pre W => (c = .ret ∧ ∃ ini x, pre = ini ++ [x] ∧ ini.length = lf ∧ Boxed W w.heap.size 3 (.int .i64 ((x : Nat) : Int))) ∧ W.heap[D]? = some (.deferred (some [])) ∧ Below w.heap.size w W)
          (OwnFrom.and (ownFrom_box _ _ _ (fun _ => _)) (OwnFrom.and (ownFrom_box _ _ _ (fun (s : List Nat) => .int .i64 ((lf : Int) - ((s.length : Nat) : Int)))) (OwnFrom.and (ownFrom_pure _ _) (OwnFrom.and (ownFrom_at _ (by omega)) (ownFrom_below (Nat.le_refl _) (by omega))))))
          (fun c => OwnFrom.and (Own.from (fun s A B row hs hg hr => by
            obtain ⟨hc, ini, x, e1, e2, e3⟩ := hs
            exact ⟨hc, ini, x, e1, e2, boxed_own w.heap.size 3 (fun (_ : Unit) => Value.int .i64 ((x : Nat) : Int)) () A B row e3 hg hr⟩) _) (OwnFrom.and (ownFrom_at _ (by omega)) (ownFrom_below (Nat.le_refl _) (by omega))))
          ⟨bR, by rw [hlf.out]; simpa using bL, Nat.zero_le _, bD, bB⟩
          (fun x => { tmps := #[.int .i64 ni, .slice A len cap, undef, undef, .pointer (some ⟨w.heap.size, 0, none⟩), .pointer (some ⟨w.heap.size + 1, 0, none⟩), .pointer (some ⟨LB, 0, none⟩), .int .i64 ((x : Nat) : Int), .slice A len cap, .func (.func 20) #[] #[.pointer (some ⟨w.heap.size + 1 + 1, 0, none⟩)], undef, undef, undef, .int .i64 ((m : Nat) : Int), .bool false, .int .i64 ni, .int .i64 (ni), .int .i64 ((m : Nat) : Int), .int .i64 (ni % ((m : Nat) : Int)), .slice A len cap, .func (.func 20) #[] #[.pointer (some ⟨LB + 1, 0, none⟩)], .int .i64 ((x : Nat) : Int), undef, undef, undef, undef, undef], defers := [] }) ?assign ?body ?done ?stop
        case assign =>
          intro l x W K hK
          gi_wp2
          exact hK
        case body =>
          rintro l pre x W ⟨hr, hk, hle, hD2, hB⟩ hl
          have hcr := hr.cell
          have hfr := hr.frozen
          have hfl := hk.frozen
          have hcl := hk.cell
          have HR3 := Lib.hid hr
          have HK3 := Lib.hid hk
          have HD3 := Lib.hid hD2
          have HB3 := Lib.hid hB
          clear hr hk hD2 hB
          by_cases hp : pre.length = lf
          · have hcl0 : W.cell? ⟨LB, 0, none⟩ = some (.int .i64 0) := by rw [hcl, hp]; simp
            have HP := Lib.hid hp
            clear hp hcl
            gi_wp2
            exact ⟨(KeepsOthers.setCell _ _ _).from _, ⟨rfl, pre, x, rfl, HP.out, HR3.out.set _⟩, (Below.heap_setCell _ _ _ _ (by simp; omega)).trans HD3.out, HB3.out.setCell (p := ⟨w.heap.size, 0, none⟩) (Nat.le_refl _) _⟩
          · have hd : (lf : Int) - ((pre.length : Nat) : Int) = ((lf - pre.length : Nat) : Int) := by omega
            obtain ⟨d, hd0⟩ : ∃ d, d = lf - pre.length := ⟨_, rfl⟩
            rw [hd, ← hd0] at hcl
            have hd1 : 0 < d := by omega
            have hd2 : d ≤ 9223372036854775807 := by omega
            have hq : (((d : Nat) : Int) == 0) = false := by simp; omega
            have HP : Hid ((d : Int) = (lf : Int) - ((pre.length : Nat) : Int)) := by rw [hd0]; exact hd.symm
            have HL2 : Hid (pre.length + 1 ≤ lf) := by unfold Hid; omega
            clear hp hd hd0
            gi_wp2
            refine ⟨(KeepsOthers.setCell _ _ _).from _, (Below.refl w.heap.size W).setCell (p := ⟨LB, 0, none⟩) (by simp; omega) _, HR3.out.other (by omega) _, ?_, by simpa using HL2.out, (Below.heap_setCell _ _ _ _ (by simp; omega)).trans HD3.out, HB3.out.setCell (p := ⟨LB, 0, none⟩) (by simp; omega) _⟩
            have e : (lf : Int) - (((pre ++ [x]).length : Nat) : Int) = (d : Int) - 1 := by rw [HP.out]; simp; omega
            rw [e]
            exact HK3.out.set _
        case done =>
          rintro D2 ys W hD hys ⟨hr, hk, hle, hD2, hB⟩ hK
          exfalso
          rw [hys] at hle
          have := hmm.out
          omega
        case stop =>
          rintro D2 c pre W hDD hpre ⟨⟨rfl, ini, x, rfl, hil, hr⟩, hD2, hB⟩ hK
          have HE : Hid (pickN ni bs = ((x : Nat) : Int)) := by
            obtain ⟨r, hr2⟩ := hpre
            unfold Hid pickN
            rw [if_neg (by have := hmm.out; omega), ← hmm.out, ← hlf2.out, ← hr2, ← hil]
            simp
          have hcr := hr.cell
          have hfr := hr.frozen
          clear hpre hil
          gi_wp2
          have hD2' := (World.putObj_heap_other (w := W) (r := D2) (k := D) (o := .deferred none) (by omega)).trans hD2
          refine ⟨by simp, .inl ⟨_, _, rfl, run_takeDeferred hK, ?_⟩⟩
          refine ⟨by simp, .inl ⟨_, _, rfl, run_takeDeferred hD2', ?_⟩⟩
          have hc5 := cell_kept (cell_kept hcr (grownBy_putObj' _ D2 (.deferred none)) (fun r e => by cases e; exact ⟨_, hK, rfl⟩)) (grownBy_putObj' _ D (.deferred none)) (fun r e => by cases e; exact ⟨_, hD2', rfl⟩)
          refine ⟨.int .i64 ((x : Nat) : Int), ?_, by rw [HE.out], (hB.trans (belowK_b (w := w) (Nat.le_refl _) W D2 _ _ (by omega) hK rfl rfl)).trans (belowK_b (w := w) (Nat.le_refl _) _ D _ _ (by omega) hD2' rfl rfl)⟩
          simp [results, Try.f9, go_sem, hc5]
end Go.Proofs.Ytebonhbclkdkfaa
