/-
  The walk of ragpickerlaw03.ScriptsCover: it returns true, and turns nothing that was there. Condition: the table 'more' holds what the program's text lays (Tabs).
-/
import Derived.Test.YtkcdgoohchkkaaaDoorScriptsJoin
set_option linter.unusedSimpArgs false
set_option linter.unusedVariables false
namespace Go.Proofs.YtkcdgoohchkkaaaDoor
open Go Go.RowKit
/-- Behind k commands the script stands at a. -/
def StandsAt (l : List Int) (L k a : Nat) : Prop := a ≤ L ∧ (parseC l L).drop k = pF l L (L - a) a
theorem stands_start (l : List Int) (L : Nat) : StandsAt l L 0 0 := ⟨Nat.zero_le _, rfl⟩
theorem stands_step {l : List Int} {L k a : Nat} (h : StandsAt l L k a) (hk : k < (parseC l L).length) : a < L ∧ (parseC l L)[k]? = some (nextC l L a) ∧ StandsAt l L (k + 1) (endN l L a) := by
  obtain ⟨h1, h2⟩ := h
  by_cases ha : a < L
  · have he := endN_gt (l := l) ha
    have hu : pF l L (L - a) a = nextC l L a :: pF l L (L - a - 1) (endN l L a) := by
      obtain ⟨f, hf⟩ : ∃ f, L - a = f + 1 := ⟨L - a - 1, by omega⟩
      rw [hf]; show (if _ then _ else _) = _; rw [if_pos ha]; rfl
    rw [hu] at h2
    refine ⟨ha, ?_, he.2, ?_⟩
    · have := congrArg (fun t => t[0]?) h2
      simpa using this
    · have := congrArg (fun t => t.drop 1) h2
      simp only [List.drop_drop, List.drop_succ_cons, List.drop_zero] at this
      rw [this]
      exact pF_fuel _ _ _ _ _ (by omega) (by omega)
  · exfalso
    have h3 : L - a = 0 := by omega
    rw [h3] at h2
    have := congrArg List.length h2
    rw [List.length_drop] at this
    simp [pF] at this
    omega
theorem stands_end {l : List Int} {L k a : Nat} (h : StandsAt l L k a) (hk : (parseC l L).length ≤ k) : a = L := by
  obtain ⟨h1, h2⟩ := h
  rw [List.drop_eq_nil_of_le hk] at h2
  by_cases ha : a < L
  · exfalso
    obtain ⟨f, hf⟩ : ∃ f, L - a = f + 1 := ⟨L - a - 1, by omega⟩
    rw [hf] at h2
    have : pF l L (f + 1) a = nextC l L a :: pF l L f (endN l L a) := by show (if _ then _ else _) = _; rw [if_pos ha]
    rw [this] at h2; cases h2
  · omega
theorem made_zeros (R : Nat) : (madeCells (Value.int .u8 0).cells (R * 1)).toList = Us (List.replicate R 0) := by
  apply List.ext_getElem?
  intro i
  simp [madeCells, Us, Value.cells, List.getElem?_replicate]
  by_cases h : i < R
  · rw [if_pos h, List.getElem?_range h]; simp [Nat.mod_one]
  · rw [if_neg h, List.getElem?_eq_none (by simp; omega)]; rfl
theorem zeros_byt (R : Nat) : Byt (List.replicate R 0) := fun x hx => by
  rw [List.eq_of_mem_replicate hx]; omega
theorem written_one (c : Cm) (h : mayC c = true) : allMay [c] = true ∧ writeC [c] = bytesC c := by
  refine ⟨by simp [allMay, h], by simp [writeC]⟩
theorem filledC_ok {k : Nat} {b0 b1 b2 b3 : Int} (hk : k < 10) (h0 : 0 ≤ b0 ∧ b0 < 256) (h1 : 0 ≤ b1 ∧ b1 < 256) (h2 : 0 ≤ b2 ∧ b2 < 256) (h3 : 0 ≤ b3 ∧ b3 < 256) : (filledC (k : Int) b0 b1 b2 b3).ok := by
  unfold filledC
  constructor <;> dsimp only <;> (try split) <;> omega
theorem rawC_ok {l : List Int} (L a : Nat) (hB : Byt l) : (rawC l L a).ok := by
  have h := hB.at_ a
  unfold rawC
  split
  · constructor <;> dsimp only <;> omega
  · split
    · exact filledC_ok kindN_lt (hB.at_ _) (hB.at_ _) (hB.at_ _) (hB.at_ _)
    · constructor <;> decide
theorem placed_ok {c : Cm} (h : c.ok) {a e : Nat} (ha : a ≤ 100000) (he : e ≤ 100000) : Cm.ok { c with fr := a, tt := e } := by
  constructor <;> dsimp only
  · exact h.kd0
  · exact h.kd1
  · omega
  · omega
  · omega
  · omega
  · exact h.pl0
  · exact h.pl1
  · exact h.th0
  · exact h.th1
  · exact h.sc0
  · exact h.sc1
  · exact h.op0
  · exact h.op1
  · exact h.ky0
  · exact h.ky1
  · exact h.vl0
  · exact h.vl1
theorem nextC_ok {l : List Int} {L a : Nat} (hB : Byt l) (ha : a < L) (hL : L ≤ 65536) : (nextC l L a).ok := by
  have he := (endN_gt (l := l) ha).2
  unfold nextC
  split
  · exact placed_ok (rawC_ok L a hB) (by omega) (by omega)
  · exact placed_ok (c := zeroC) (by constructor <;> decide) (by omega) (by omega)
theorem parse_gen (l : List Int) (A : Option Addr) (nb cb L p : Nat) (w : World) (ht : Tabs w) (hS : Sl w w.heap.size 1 A nb (Us l)) (hB : Byt l) (hc : nb ≤ cb) (hm : cb ≤ maxLen) (hL : L = min nb 65536) (hp : (parseC l L).length = p) :
    Calls Tryd.prog 10 #[.slice A nb cb] w fun e w' => ∃ A', e = .returned (.slice A' p p) ∧ Sl w' w'.heap.size 9 A' p (Cs Cm.L (parseC l L)) ∧ Below w.heap.size w w' := by
  subst hp
  refine (parse_any l A nb cb L w ht hS hB hc hm hL).mono ?_
  rintro e w' ⟨A', c', rfl, ho, hb⟩
  obtain ⟨A2, c2, hv, _, _, hS2, _⟩ := own_sl ho
  cases hv
  exact ⟨A', rfl, hS2, hb⟩
set_option maxRecDepth 100000 in
set_option maxHeartbeats 8000000 in
theorem scriptsCover_walk (w : World) (ht : Tabs w) (A : Option Addr) (n c : Nat) (xs : List Value) (hnc : n ≤ c) (hcm : c ≤ maxLen) (hS : Sl w w.heap.size 1 A n xs) (hO : Oks (List.replicate n [Fk.i .u8]).flatten xs) (x : Int) (wx : (Lit.int .u8 x).wf = true) :
    Calls Tryd.prog 5 #[.slice A n c, .int .u8 x] w fun e w' => e = .returned (.bool true) ∧ Below w.heap.size w w' := by
  obtain ⟨lb, rfl, hlb, hbb⟩ := us_list hO
  have hx := u8_wf wx
  have hsz := ht.size
  have HSb := Lib.hid hS
  have HLb := Lib.hid hlb
  have HBb := Lib.hid hbb
  have HT := Lib.hid ht
  have HNc := Lib.hid (And.intro hnc hcm)
  clear hO hS ht hlb hbb hnc hcm wx
  have HLives : Hid (∀ W, Below w.heap.size w W → Calls Tryd.prog 8 #[] W fun e w' => e = .returned (.bool true) ∧ Below w.heap.size w w') := fun W hb =>
    (lives_any W (HT.out.below hb hsz)).mono fun e w' h => ⟨h.1, below_call hb h.2⟩
  by_cases h3 : n ≤ 3000
  · have d0 : decide ((3000 : Int) < (n : Int)) = false := decide_eq_false (by omega)
    obtain ⟨i0, hi0, hz0, hz1, hz2⟩ := info_parts info5
    obtain ⟨R, hR⟩ : ∃ R : Nat, 1000 * (x % 70) = (R : Int) := ⟨(1000 * (x % 70)).toNat, by omega⟩
    have hR69 : R ≤ 69000 := by omega
    have hwx : IntKind.i64.wrap x = x := by rw [IntKind.wrap_i64]; omega
    have htx : x.tmod 70 = x % 70 := Int.tmod_eq_emod_of_nonneg hx.1
    have hwr : IntKind.i64.wrap (R : Int) = (R : Int) := by rw [IntKind.wrap_i64]; omega
    go_enter Tryd.func5, Tryd.ntmps5
    go_wp2_with (first
      | (at_make; go_loud (refine wpList_make_full _ rfl _ _ 22 rfl w.heap.size 5 i0 (.int .u8 0) 1 Tryd.underlying22 hi0 hz0 hz1 _ _ _ _ R rfl rfl rfl rfl (by rw [hz2]; omega) (by simp only [maxLen]; omega) (Nat.le_refl _) ?_; intro w7 hown7 hg7; rw [made_zeros] at hown7; have hb7 : Below w.heap.size w w7 := below_grown (v := .slice none 0 0) (Below.refl w.heap.size w) hg7 (World.ownsRow_nil w w.heap.size 5 1) (Nat.le_refl _) (Nat.le_refl _)))
      | (at_builtin; refine wpList_append_sl rfl _ _ 22 rfl w.heap.size 5 i0 _ 1 1 Tryd.underlying22 hi0 hz0 hz1 hz2 rfl (by omega) (.slice (some ⟨w.heap.size, 0, none⟩) R R) R (Us (List.replicate R 0)) rfl hown7 w7.heap.size A n c (Us lb) rfl ((HSb.out.below hb7).mono hb7.size) (Us_one lb) (by simp only [maxLen]; omega) (by omega) hb7.size ?_; intro v8 w8 hown8 hg8; obtain ⟨A8, cp8, hv8, hmc8, hcm8, hS8, _⟩ := own_sl hown8; subst hv8))
    have HR := Lib.hid (And.intro hR (And.intro hwx (And.intro htx hwr)))
    have hb8 : Below w.heap.size w w8 := below_grown hb7 hg8 hown7 (Nat.le_refl _) hb7.size
    rw [← Us_app] at hS8
    obtain ⟨N, hN⟩ : ∃ N, N = R + n := ⟨_, rfl⟩
    obtain ⟨all, hall⟩ : ∃ all, all = List.replicate R 0 ++ lb := ⟨_, rfl⟩
    have hbal : Byt all := by rw [hall]; exact fun x hx => (List.mem_append.1 hx).elim (zeros_byt R x) (HBb.out x)
    have hlal : all.length = N := by rw [hall, List.length_append, List.length_replicate, HLb.out, hN]
    rw [← hall, ← hN] at hS8
    rw [← hN] at hmc8 ⊢
    obtain ⟨L, hL⟩ : ∃ L, L = min N 65536 := ⟨_, rfl⟩
    obtain ⟨p, hp⟩ : ∃ p, (parseC all L).length = p := ⟨_, rfl⟩
    have hpL : p ≤ L := by rw [← hp]; exact parseC_len _ _
    have HB8 := Lib.hid hb8
    have HSa := Lib.hid hS8
    have HBal := Lib.hid hbal
    have HLal := Lib.hid hlal
    have HP := Lib.hid hp
    have HCp := Lib.hid (And.intro hmc8 hcm8)
    have HLN := Lib.hid hL
    have hLN : L ≤ N := by omega
    have hL65 : L ≤ 65536 := by omega
    have hN72 : N ≤ 72000 := by omega
    clear hR hwx htx hwr hb8 hbal hlal hS8 hown8 hown7 hg7 hg8 hb7 hmc8 hcm8 hp hall hi0 hz0 hz1 hz2 hN hL hx
    refine (parse_gen all A8 N cp8 L p w8 (HT.out.below HB8.out hsz) HSa.out HBal.out HCp.out.1 HCp.out.2 HLN.out HP.out).mono ?_
    rintro e w9 ⟨A9, rfl, hs9, hb9⟩
    have HB9 := Lib.hid (below_call HB8.out hb9)
    have HSn := Lib.hid (fun (k : Nat) (hk : k < p) => struct_at V_len hs9 hk)
    have HSa9 : Hid (Sl w9 w9.heap.size 1 A8 N (Us all)) := (HSa.out.below hb9).mono hb9.size
    clear hs9 hb9 HB8 HSa HSb HBb HLb HNc HR
    go_wp2
    go_loopw [7, 8] (fun v i wr => ∃ k a : Nat, k ≤ p ∧ i = .int .i64 k ∧ v = .int .i64 a ∧ Hid (StandsAt all L k a) ∧ Hid (Below w9.heap.size w9 wr)) (fun _ i _ => p - (intOf i).toNat)
    case atStart => exact ⟨0, 0, Nat.zero_le _, rfl, rfl, stands_start _ _, Below.refl _ _⟩
    case round =>
      obtain ⟨k, a, hk, rfl, rfl, hsta, hst⟩ := hrel
      obtain ⟨wo, rfl⟩ : ∃ wo, wo = wr := ⟨_, rfl⟩
      by_cases hkp : k < p
      · obtain ⟨b, off, x, rfl, hb, hx, hc⟩ := HSn.out k hkp
        obtain ⟨haL, hxn, hsta'⟩ := stands_step hsta.out (by rw [HP.out]; exact hkp)
        obtain rfl : x = nextC all L a := Option.some.inj (hx.symm.trans hxn)
        have hxo := nextC_ok HBal.out haL hL65
        obtain ⟨s1, s2, s3, s4, s5, s6⟩ := next_shape all L a HBal.out (by rw [HLal.out]; exact hLN) haL
        have he := endN_gt (l := all) haL
        have he5 : endN all L a ≤ a + 5 := by have := moreN_le (kindN (all.getD a 0)); unfold endN; omega
        obtain ⟨ba, oa, rfl, hba, hca⟩ := us_cell HSa9.out (show a < N by omega)
        have hcy := (hst.out.cell (p := ⟨ba, oa + a, none⟩) hba).trans (hca a (by omega))
        have HStep := Lib.hid hsta'
        have HCy : Hid (∀ wr, Below w9.heap.size w9 wr → wr.cell? ⟨ba, oa + a, none⟩ = some (.int .u8 (all.getD a 0))) := fun wr h => (h.cell (p := ⟨ba, oa + a, none⟩) hba).trans (hca a (by omega))
        have HXo := Lib.hid hxo
        clear hsta hsta' hx hxn hxo
        generalize hxx : nextC all L a = x at hc s1 s2 s3 s4 s5 s6 HXo
        generalize hee : endN all L a = e at s2 s6 he he5 HStep
        obtain ⟨y, hy⟩ : ∃ y, y = all.getD a 0 := ⟨_, rfl⟩
        rw [← hy] at s5 hcy HCy
        have HS5 := Lib.hid s5
        have HS6 := Lib.hid s6
        obtain ⟨x0, x1, x2, x3, x4, x5, x6, x7, x8⟩ := x
        simp only at s1 s2 s3 s4
        subst s1 s2
        have r0 : (0 : Int) ≤ (k : Int) := by omega
        have r1 : (k : Int) < (p : Int) := by omega
        have t0 : decide ((e : Int) ≤ (a : Int)) = false := decide_eq_false (by omega)
        have t1 : decide ((a : Int) + 5 < (e : Int)) = false := decide_eq_false (by omega)
        have t2 : decide ((N : Int) < (e : Int)) = false := decide_eq_false (by omega)
        have t3 : decide (9 < x0) = false := decide_eq_false (by omega)
        have t0' : ¬ e ≤ a := by omega
        have t2' : ¬ N < e := by omega
        have he1 := he.1
        have heL := he.2
        have hcell : ∀ i u, i < 9 → (Cm.L ⟨x0, (a : Nat), (e : Nat), x3, x4, x5, x6, x7, x8⟩)[i]? = some u → wo.cell? ⟨b, off + k * 9 + i, none⟩ = some u := fun i u hi hu => (hst.out.cell (p := ⟨b, off + k * 9 + i, none⟩) hb).trans (hc i u hi hu)
        have c0 := hcell 0 _ (by omega) rfl
        have c1 := hcell 1 _ (by omega) rfl
        have c2 := hcell 2 _ (by omega) rfl
        have c3 := hcell 3 _ (by omega) rfl
        have c4 := hcell 4 _ (by omega) rfl
        have c5 := hcell 5 _ (by omega) rfl
        have c6 := hcell 6 _ (by omega) rfl
        have c7 := hcell 7 _ (by omega) rfl
        have c8 := hcell 8 _ (by omega) rfl
        dsimp only at c0 c1 c2 c3 c4 c5 c6 c7 c8
        rw [Nat.add_zero] at c0
        have HH : Hid (nextC all L a = ⟨x0, (a : Nat), (e : Nat), x3, x4, x5, x6, x7, x8⟩ ∧ endN all L a = e ∧ y = all.getD a 0) := ⟨hxx, hee, hy⟩
        clear hcell hc s5 s6 hxx hee hy he
        have hbg := hst.out.size
        by_cases hk0 : x0 = 0
        · subst hk0
          obtain ⟨hz, hy8⟩ := HS5.out rfl
          have ty : decide (y < 128) = false := decide_eq_false (by omega)
          have r3 : (0 : Int) ≤ (a : Int) := by omega
          have r4 : (a : Int) < (N : Int) := by omega
          have hbx : ∀ w, Calls Tryd.prog 21 #[(⟨0, (a : Nat), (e : Nat), x3, x4, x5, x6, x7, x8⟩ : Cm).V] w fun e w' => e = .returned zeroC.V ∧ Below w.heap.size w w' := fun w => by rw [← hz]; exact bare_any _ w
          have hneq : ∀ w, (binOp .neq 34 zeroC.V zeroC.V).run Tryd.prog w = .ok (.bool false) w := fun w => by rw [cm_neq, decide_eq_true rfl]; rfl
          have hgd : ∀ a b w, (eqGuard .neq 34 a b zeroC.V zeroC.V).run Tryd.prog w = .ok () w := fun a b w => cm_guard .neq (.inr rfl) _ _ a b w
          have HBx := Lib.hid hbx
          unfold Cm.V zeroC at hneq hgd
          dsimp only at hneq hgd
          clear hbx hz hca
          have HK1 := Lib.hid (Bk.made wo 34 (Cm.L ⟨0, (a : Nat), (e : Nat), x3, x4, x5, x6, x7, x8⟩))
          have HB1 : Hid (Below wo.heap.size wo (wo.alloc (.cells (Cm.L ⟨0, (a : Nat), (e : Nat), x3, x4, x5, x6, x7, x8⟩).toArray 34))) := (Below.refl _ _).alloc (Nat.le_refl _) _
          go_wp2_with fail
          change Calls _ _ _ (wo.alloc (.cells (Cm.L ⟨0, (a : Nat), (e : Nat), x3, x4, x5, x6, x7, x8⟩).toArray 34)) _
          generalize wo.alloc (.cells (Cm.L ⟨0, (a : Nat), (e : Nat), x3, x4, x5, x6, x7, x8⟩).toArray 34) = W1 at HK1 HB1 ⊢
          refine (HBx.out _).mono ?_
          rintro e' W2 ⟨rfl, hb2⟩
          have HK2 : Hid (Bk W2 wo.heap.size 34 (Cm.L ⟨0, (a : Nat), (e : Nat), x3, x4, x5, x6, x7, x8⟩)) := HK1.out.below hb2 HK1.out.size
          have HB2 := Lib.hid (below_call (below_call hst.out HB1.out) hb2)
          obtain ⟨e0, e1, e2, e3, e4, e5, e6, e7, e8⟩ := nine_cells HK2.out
          have hcz := HCy.out W2 HB2.out
          clear hb2 HB1 HK1 HBx c0 c1 c2 c3 c4 c5 c6 c7 c8
          unfold Cm.V zeroC
          dsimp only
          go_wp2
          go_roundw
          case rel => exact ⟨k + 1, e, by omega, by go_num, rfl, HStep.out, HB2.out⟩
          case measure => simp [intOf]; omega
        · have hk0' : (x0 == 0) = false := by simp [hk0]
          obtain ⟨hmay, hby⟩ := HS6.out hk0
          obtain ⟨m, hm⟩ : ∃ m, m = e - a := ⟨_, rfl⟩
          obtain ⟨bl, hbl⟩ : ∃ bl, bl = (all.drop a).take m := ⟨_, rfl⟩
          rw [← hm, ← hbl] at hby
          have hblm : bl.length = m := by rw [hbl, List.length_take, List.length_drop, HLal.out]; omega
          have hbb : Byt bl := by rw [hbl]; exact HBal.out.part a m
          have HWr : Hid (∀ w A c, Sl w w.heap.size 9 A 1 (Cs Cm.L [⟨x0, (a : Nat), (e : Nat), x3, x4, x5, x6, x7, x8⟩]) → Calls Tryd.prog 19 #[.slice A 1 c] w fun e' w' => ∃ A', e' = .returned (.tuple #[.slice A' m m, .bool true]) ∧ Sl w' w'.heap.size 1 A' m (Us bl) ∧ Below w.heap.size w w') := fun w A c hs => by
            refine (write_any _ A 1 c w hs (fun z hz => by rw [List.mem_singleton.1 hz]; exact HXo.out) (by omega)).mono ?_
            rintro e' w' ⟨hw, hb'⟩
            unfold Written at hw
            rw [if_pos (written_one _ hmay).1, (written_one _ hmay).2, hby, hblm] at hw
            obtain ⟨A1, c1, rfl, ho1⟩ := hw
            obtain ⟨A2, c2, hv, _, _, hS2, _⟩ := own_sl ho1
            cases hv
            exact ⟨A1, rfl, hS2, hb'⟩
          have HMay : Hid (∀ w, Calls Tryd.prog 17 #[(⟨x0, (a : Nat), (e : Nat), x3, x4, x5, x6, x7, x8⟩ : Cm).V] w fun e' w' => e' = .returned (.bool true) ∧ Below w.heap.size w w') := fun w => by rw [← hmay]; exact may_any _ w
          have HSp : Hid (Sl w9 w9.heap.size 1 (some ⟨ba, oa + a, none⟩) m (Us bl)) := by rw [hbl]; exact sl_part HSa9.out a m (by omega) _ (fun _ => rfl)
          have HBl := Lib.hid hbb
          have HM := Lib.hid hm
          have HK1 := Lib.hid (Bk.made wo 34 (Cm.L ⟨x0, (a : Nat), (e : Nat), x3, x4, x5, x6, x7, x8⟩))
          have HB1 : Hid (Below wo.heap.size wo (wo.alloc (.cells (Cm.L ⟨x0, (a : Nat), (e : Nat), x3, x4, x5, x6, x7, x8⟩).toArray 34))) := (Below.refl _ _).alloc (Nat.le_refl _) _
          have HK2 := Lib.hid (Bk.made (wo.alloc (.cells (Cm.L ⟨x0, (a : Nat), (e : Nat), x3, x4, x5, x6, x7, x8⟩).toArray 34)) 34 (Cs Cm.L [⟨x0, (a : Nat), (e : Nat), x3, x4, x5, x6, x7, x8⟩]))
          have HB2 : Hid (Below (wo.alloc (.cells (Cm.L ⟨x0, (a : Nat), (e : Nat), x3, x4, x5, x6, x7, x8⟩).toArray 34)).heap.size (wo.alloc (.cells (Cm.L ⟨x0, (a : Nat), (e : Nat), x3, x4, x5, x6, x7, x8⟩).toArray 34)) ((wo.alloc (.cells (Cm.L ⟨x0, (a : Nat), (e : Nat), x3, x4, x5, x6, x7, x8⟩).toArray 34)).alloc (.cells (Cs Cm.L [⟨x0, (a : Nat), (e : Nat), x3, x4, x5, x6, x7, x8⟩]).toArray 34))) := (Below.refl _ _).alloc (Nat.le_refl _) _
          have hsz1 : (wo.alloc (.cells (Cm.L ⟨x0, (a : Nat), (e : Nat), x3, x4, x5, x6, x7, x8⟩).toArray 34)).heap.size = wo.heap.size + 1 := by simp
          rw [hsz1] at HK2
          clear hmay hby hblm hbb hca hm hbl hcy HS5 HS6
          go_wp2_with fail
          change Calls _ _ _ ((wo.alloc (.cells (Cm.L ⟨x0, (a : Nat), (e : Nat), x3, x4, x5, x6, x7, x8⟩).toArray 34)).alloc (.cells (Cs Cm.L [⟨x0, (a : Nat), (e : Nat), x3, x4, x5, x6, x7, x8⟩]).toArray 34)) _
          clear hsz1
          generalize (wo.alloc (.cells (Cm.L ⟨x0, (a : Nat), (e : Nat), x3, x4, x5, x6, x7, x8⟩).toArray 34)).alloc (.cells (Cs Cm.L [⟨x0, (a : Nat), (e : Nat), x3, x4, x5, x6, x7, x8⟩]).toArray 34) = W2 at HK2 HB2 ⊢
          generalize wo.alloc (.cells (Cm.L ⟨x0, (a : Nat), (e : Nat), x3, x4, x5, x6, x7, x8⟩).toArray 34) = W1 at HK1 HB1 HB2
          refine (HWr.out _ _ _ (cs_made HK2.out)).mono ?_
          rintro e' W4 ⟨A1, rfl, hs4, hb4⟩
          have HB4 := Lib.hid (below_call (below_call (below_call hst.out HB1.out) HB2.out) hb4)
          have HK4 : Hid (Bk W4 wo.heap.size 34 (Cm.L ⟨x0, (a : Nat), (e : Nat), x3, x4, x5, x6, x7, x8⟩)) := (HK1.out.below HB2.out HK1.out.size).below hb4 (Nat.lt_of_lt_of_le HK1.out.size HB2.out.size)
          have HS4 := Lib.hid hs4
          clear hs4 hb4 HB1 HB2 HK1 HK2 HWr c0 c1 c2 c3 c4 c5 c6 c7 c8
          obtain ⟨st, hst'⟩ : ∃ st, st = strC bl := ⟨_, rfl⟩
          obtain ⟨g1, hg1⟩ : ∃ g1, g1 = wo.heap.size := ⟨_, rfl⟩
          rw [← hg1] at HK4 ⊢
          have HC : Hid (∀ wr : World, Below W4.heap.size W4 wr → (wr.cell? ⟨g1, 0, none⟩ = some (.int .u8 x0) ∧ wr.cell? ⟨g1, 1, none⟩ = some (.int .i64 ((a : Nat) : Int)) ∧ wr.cell? ⟨g1, 2, none⟩ = some (.int .i64 ((e : Nat) : Int)) ∧ wr.cell? ⟨g1, 3, none⟩ = some (.int .i64 x3) ∧ wr.cell? ⟨g1, 4, none⟩ = some (.int .i64 x4) ∧ wr.cell? ⟨g1, 5, none⟩ = some (.int .u8 x5) ∧ wr.cell? ⟨g1, 6, none⟩ = some (.int .u8 x6) ∧ wr.cell? ⟨g1, 7, none⟩ = some (.int .u64 x7) ∧ wr.cell? ⟨g1, 8, none⟩ = some (.int .u64 x8) ∧ (convert 22 9 (.slice A1 m m)).run Tryd.prog wr = .ok (.string st) wr ∧ (convert 22 9 (.slice (some ⟨ba, oa + a, none⟩) m (cp8 - a))).run Tryd.prog wr = .ok (.string st) wr ∧ Below w9.heap.size w9 wr)) := fun wr h => by
            have hk := HK4.out.below h HK4.out.size
            obtain ⟨e0, e1, e2, e3, e4, e5, e6, e7, e8⟩ := nine_cells hk
            refine ⟨e0, e1, e2, e3, e4, e5, e6, e7, e8, ?_, ?_, below_call HB4.out h⟩
            · rw [hst']; exact conv_us bl HBl.out A1 _ m m wr (HS4.out.below h)
            · rw [hst']; exact conv_us bl HBl.out _ _ m _ wr (HSp.out.below (below_call HB4.out h))
          clear hst' hg1
          have hbw : Below W4.heap.size W4 W4.drew := below_drewN (Below.refl _ _) 1
          obtain ⟨e0, e1, e2, e3, e4, e5, e6, e7, e8, v1, v2, _⟩ := HC.out _ hbw
          have q1 : (0 : Int) ≤ (a : Int) := by omega
          have q2 : (a : Int) ≤ (e : Int) := by omega
          have q3 : (e : Int) ≤ (cp8 : Int) := by have := HCp.out.1; omega
          have q4 : e - a = m := HM.out.symm
          have q5 : ¬ cp8 = a := by have := HCp.out.1; omega
          go_upto_region 17 with fail
          go_cut [105] (fun v105 wx => v105 = .bool false ∧ Hid (Below w9.heap.size w9 wx))
          case first =>
            go_region_held3 (fun wr => wr.cell? ⟨g1, 0, none⟩ = some (.int .u8 x0) ∧ wr.cell? ⟨g1, 1, none⟩ = some (.int .i64 ((a : Nat) : Int)) ∧ wr.cell? ⟨g1, 2, none⟩ = some (.int .i64 ((e : Nat) : Int)) ∧ wr.cell? ⟨g1, 3, none⟩ = some (.int .i64 x3) ∧ wr.cell? ⟨g1, 4, none⟩ = some (.int .i64 x4) ∧ wr.cell? ⟨g1, 5, none⟩ = some (.int .u8 x5) ∧ wr.cell? ⟨g1, 6, none⟩ = some (.int .u8 x6) ∧ wr.cell? ⟨g1, 7, none⟩ = some (.int .u64 x7) ∧ wr.cell? ⟨g1, 8, none⟩ = some (.int .u64 x8) ∧ (convert 22 9 (.slice A1 m m)).run Tryd.prog wr = .ok (.string st) wr ∧ (convert 22 9 (.slice (some ⟨ba, oa + a, none⟩) m (cp8 - a))).run Tryd.prog wr = .ok (.string st) wr ∧ Below w9.heap.size w9 wr)
              (first
                | exact HC.out _ hbw
                | (go_split_ands; exact HC.out _ (by assumption))
                | (go_split_ands; exact HC.out _ (below_call (by assumption) hbc)))
              (first
                | (go_at_call 17; refine (HMay.out _).mono ?_; rintro e w9' ⟨rfl, hbc⟩))
            all_goals go_split_ands
            all_goals (go_step; go_step)
            all_goals go_meet
            all_goals exact ⟨rfl, by unfold Hid; assumption⟩
          case rest =>
            obtain ⟨rfl, HBy⟩ := hcut
            clear e0 e1 e2 e3 e4 e5 e6 e7 e8 v1 v2 HC hbw HMay q4
            go_wp2
            go_roundw
            case rel => exact ⟨k + 1, e, by omega, by go_num, rfl, HStep.out, HBy.out⟩
            case measure => simp [intOf]; omega
      · obtain rfl : k = p := by omega
        have HBo := Lib.hid (below_call HB9.out hst.out)
        have haL : a = L := stands_end hsta.out (by rw [HP.out]; exact Nat.le_refl _)
        clear hsta hst HSn HSa9 hkp HBal HLal HP
        by_cases h6 : N ≤ 65536
        · have h6' : (N : Int) ≤ 65536 := by omega
          obtain rfl : a = N := by rw [haL, HLN.out]; omega
          have q0 : ((a : Int) == (a : Int)) = true := by simp
          clear haL HLN
          go_wp2_with fail
          refine (HLives.out _ HBo.out).mono ?_
          rintro e w4 ⟨rfl, hb4⟩
          go_wp2
          go_ret
          exact ⟨rfl, hb4⟩
        · have h6' : ¬ (N : Int) ≤ 65536 := by omega
          have h6'' : (65536 : Int) < (N : Int) := by omega
          obtain rfl : a = 65536 := by rw [haL, HLN.out]; omega
          have q0 : (((65536 : Nat) : Int) == 65536) = true := by decide
          clear haL HLN
          go_wp2_with fail
          refine (HLives.out _ HBo.out).mono ?_
          rintro e w4 ⟨rfl, hb4⟩
          go_wp2
          go_ret
          exact ⟨rfl, hb4⟩
  · have d0 : decide ((3000 : Int) < (n : Int)) = true := decide_eq_true (by omega)
    go_enter Tryd.func5, Tryd.ntmps5
    go_wp2_with fail
    refine (HLives.out w (Below.refl _ _)).mono ?_
    rintro e w2 ⟨rfl, hb2⟩
    go_wp2
    go_ret
    exact ⟨rfl, hb2⟩
end Go.Proofs.YtkcdgoohchkkaaaDoor
