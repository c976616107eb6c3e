/-
  The walks of ragpickerlaw04.PicksNext and PicksFair: they return true, and turn nothing that was there. No condition.
-/
import Derived.Test.YtebonhbclkdkfaaLives
set_option linter.unusedSimpArgs false
namespace Go.Proofs.Ytebonhbclkdkfaa
open Go Go.RowKit
theorem info4 : (Try.prog.info? 4).map (fun i => (i.zero, i.size, i.bytes)) = some (some (.bool false), 1, 1) := by kernel_rfl
theorem bool_list {n : Nat} : ∀ {xs : List Value}, Oks (List.replicate n [.b]).flatten xs → ∃ bs : List Bool, xs = Bs bs ∧ bs.length = n := by
  induction n with
  | zero => intro xs h; exact ⟨[], h.nil_inv, rfl⟩
  | succ n ih =>
    intro xs h
    rw [List.replicate_succ, List.flatten_cons] at h
    obtain ⟨v, us, rfl, ⟨z, rfl⟩, hu⟩ := Oks.cons_inv (k := Fk.b) (ks := (List.replicate n [Fk.b]).flatten) h
    obtain ⟨bs, rfl, hl⟩ := ih hu
    exact ⟨z :: bs, rfl, by simp [hl]⟩
theorem int_list {n : Nat} : ∀ {xs : List Value}, Oks (List.replicate n [.i .i64]).flatten xs → ∃ zs : List Int, xs = Is zs ∧ zs.length = n := by
  induction n with
  | zero => intro xs h; exact ⟨[], h.nil_inv, rfl⟩
  | succ n ih =>
    intro xs h
    rw [List.replicate_succ, List.flatten_cons] at h
    obtain ⟨v, us, rfl, ⟨z, rfl, _⟩, hu⟩ := Oks.cons_inv (k := Fk.i .i64) (ks := (List.replicate n [Fk.i .i64]).flatten) h
    obtain ⟨zs, rfl, hl⟩ := ih hu
    exact ⟨z :: zs, rfl, by simp [hl]⟩
theorem Bs_one (bs : List Bool) : ∀ u ∈ Bs bs, u.oneCell' = true := by
  intro u hu
  obtain ⟨x, _, rfl⟩ := List.mem_map.1 hu
  rfl
theorem Is_one (zs : List Int) : ∀ u ∈ Is zs, u.oneCell' = true := by
  intro u hu
  obtain ⟨x, _, rfl⟩ := List.mem_map.1 hu
  rfl
set_option maxHeartbeats 2000000 in
theorem picksNext_walk (w : World) (ni : Int) (_w0 : (Lit.int .i64 ni).wf = true) (la : Int) (_w1 : (Lit.int .i64 la).wf = true) (A : Option Addr) (n c : Nat) (xs : List Value) (hc : n ≤ c) (hm : c ≤ maxLen) (hS : Sl w w.heap.size 1 A n xs) (hO : Oks (List.replicate n [.b]).flatten xs) :
    Calls Try.prog 3 #[.int .i64 ni, .int .i64 la, .slice A n c] w fun e w' => e = .returned (.bool true) ∧ Below w.heap.size w w' := by
  obtain ⟨bs, rfl, hl⟩ := bool_list hO
  unfold maxLen at hm
  have hn0 : n ≤ 9223372036854775807 := by omega
  obtain ⟨i0, hi0, hz0, hz1, hz2⟩ := info_parts info4
  have HS := Lib.hid hS
  have HL := Lib.hid hl
  clear hO hS hl hc hm _w0 _w1
  by_cases h3 : n ≤ 300
  · have d0 : decide ((300 : Int) < (n : Int)) = false := decide_eq_false (by omega)
    go_enter Try.func3, Try.ntmps3
    go_wp2_with (at_builtin; refine wpList_append_sl rfl _ _ 22 rfl w.heap.size 4 i0 _ 1 1 Try.underlying22 hi0 hz0 hz1 hz2 rfl (by omega) (.slice none 0 0) 0 [] rfl (World.ownsRow_nil _ _ _ _) w.heap.size A n c (Bs bs) rfl HS.out (Bs_one bs) (by simp only [maxLen]; omega) (by omega) (by simp) ?_; intro v1 w1 hown1 hg1)
    have HB1 : Hid (Below w.heap.size w w1) := (Below.refl _ _).grown hg1 (by simp) (by simp [Value.ownBlock])
    simp only [Nat.zero_add, List.nil_append] at hown1
    obtain ⟨A1, c1, rfl, _, _, hS1, _⟩ := own_sl hown1
    have HT := Lib.hid hS1
    have HU : Hid (Sl w1 w1.heap.size 1 A n (Bs bs)) := (HS.out.below HB1.out).mono HB1.out.size
    clear hown1 hg1 hS1
    refine (pick_any ni A1 n c1 bs HL.out (by omega) w1 HT.out).mono ?_
    rintro e w2 ⟨rfl, hb2⟩
    have HB2 := Lib.hid (below_call HB1.out hb2)
    have HT2 : Hid (Sl w2 w2.heap.size 1 A1 n (Bs bs)) := (HT.out.below hb2).mono hb2.size
    have HU2 : Hid (Sl w2 w2.heap.size 1 A n (Bs bs)) := (HU.out.below hb2).mono hb2.size
    clear hb2
    generalize hpk : pickN ni bs = pk
    go_wp2_with fail
    refine (refPick_any ni A n c bs HL.out (by omega) w2 HU2.out).mono ?_
    rw [hpk]
    rintro e w3 ⟨rfl, hb3⟩
    have HB3 := Lib.hid (below_call HB2.out hb3)
    have HT3 : Hid (Sl w3 w3.heap.size 1 A1 n (Bs bs)) := (HT2.out.below hb3).mono hb3.size
    have HU3 : Hid (Sl w3 w3.heap.size 1 A n (Bs bs)) := (HU2.out.below hb3).mono hb3.size
    have hq : (pk == pk) = true := by simp
    clear hb3 hpk
    go_wp2_with fail
    refine (turn_any la A1 n c1 bs HL.out (by omega) w3 HT3.out).mono ?_
    rintro e w4 ⟨rfl, hb4⟩
    have HB4 := Lib.hid (below_call HB3.out hb4)
    have HT4 : Hid (Sl w4 w4.heap.size 1 A1 n (Bs bs)) := (HT3.out.below hb4).mono hb4.size
    have HU4 : Hid (Sl w4 w4.heap.size 1 A n (Bs bs)) := (HU3.out.below hb4).mono hb4.size
    clear hb4 hq
    generalize htn : turnN la bs = tn
    go_wp2_with fail
    refine (refTurn_any la A n c bs HL.out (by omega) w4 HU4.out).mono ?_
    rw [htn]
    rintro e w5 ⟨rfl, hb5⟩
    have HB5 := Lib.hid (below_call HB4.out hb5)
    have HT5 : Hid (Sl w5 w5.heap.size 1 A1 n (Bs bs)) := (HT4.out.below hb5).mono hb5.size
    have HU5 : Hid (Sl w5 w5.heap.size 1 A n (Bs bs)) := (HU4.out.below hb5).mono hb5.size
    have hq : (tn == tn) = true := by simp
    clear hb5 htn
    go_wp2_with fail
    refine (same_any A1 A n c1 c bs HL.out (by omega) w5 HT5.out HU5.out).mono ?_
    rintro e w6 ⟨rfl, hb6⟩
    have HB6 := Lib.hid (below_call HB5.out hb6)
    clear hb6
    go_wp2_with fail
    refine (lives_any w6).mono ?_
    rintro e w7 ⟨rfl, hb7⟩
    have HB7 := Lib.hid (below_call HB6.out hb7)
    clear hb7
    go_wp2
    go_ret
    exact ⟨rfl, HB7.out⟩
  · have d0 : decide ((300 : Int) < (n : Int)) = true := decide_eq_true (by omega)
    clear h3
    go_enter Try.func3, Try.ntmps3
    go_wp2_with fail
    refine (lives_any w).mono ?_
    rintro e w2 ⟨rfl, hb2⟩
    have HB2 := Lib.hid hb2
    clear hb2
    go_wp2
    go_ret
    exact ⟨rfl, HB2.out⟩
end Go.Proofs.Ytebonhbclkdkfaa
