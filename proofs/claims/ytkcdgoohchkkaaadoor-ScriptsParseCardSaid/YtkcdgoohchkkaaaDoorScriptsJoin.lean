/-
  The walk of ragpickerlaw03.ScriptsJoin: it returns true, and turns nothing that was there. Condition: the table 'more' holds what the program's text lays (Tabs).
-/
import Derived.Test.YtkcdgoohchkkaaaDoorSconU
set_option linter.unusedSimpArgs false
set_option linter.unusedVariables false
namespace Go.Proofs.YtkcdgoohchkkaaaDoor
open Go Go.RowKit
theorem us_list {n : Nat} : ∀ {xs : List Value}, Oks (List.replicate n [Fk.i .u8]).flatten xs → ∃ l : List Int, xs = Us l ∧ l.length = n ∧ Byt l := by
  induction n with
  | zero => intro xs h; exact ⟨[], h.nil_inv, rfl, fun x hx => by cases hx⟩
  | succ n ih =>
    intro xs h
    rw [List.replicate_succ, List.flatten_cons] at h
    change Oks (Fk.i .u8 :: (List.replicate n [Fk.i .u8]).flatten) xs at h
    obtain ⟨v0, us0, rfl, ⟨x0, rfl, w0⟩, t0⟩ := Oks.cons_inv h
    obtain ⟨l, rfl, hl, hb⟩ := ih t0
    refine ⟨x0 :: l, rfl, by simp [hl], fun x hx => ?_⟩
    rcases List.mem_cons.1 hx with rfl | hx
    · exact u8_wf w0
    · exact hb x hx
theorem pF_len (l : List Int) (L : Nat) : ∀ f a, (pF l L f a).length ≤ L - a := by
  intro f
  induction f with
  | zero => intro a; exact Nat.zero_le _
  | succ f ih =>
    intro a
    by_cases ha : a < L
    · have hu : pF l L (f + 1) a = nextC l L a :: pF l L f (endN l L a) := by show (if _ then _ else _) = _; rw [if_pos ha]
      have he := endN_gt (l := l) ha
      have := ih (endN l L a)
      rw [hu, List.length_cons]; omega
    · have hu : pF l L (f + 1) a = [] := by show (if _ then _ else _) = _; rw [if_neg ha]
      rw [hu]; exact Nat.zero_le _
theorem parseC_len (l : List Int) (L : Nat) : (parseC l L).length ≤ L := pF_len l L L 0
theorem parse_small (l : List Int) (A : Option Addr) (nb cb p : Nat) (w : World) (ht : Tabs w) (hS : Sl w w.heap.size 1 A nb (Us l)) (hB : Byt l) (hc : nb ≤ cb) (hm : cb ≤ maxLen) (hn : nb ≤ 65536) (hp : (parseC l nb).length = p) :
    Calls Tryd.prog 10 #[.slice A nb cb] w fun e w' => ∃ A', e = .returned (.slice A' p p) ∧ Sl w' w'.heap.size 9 A' p (Cs Cm.L (parseC l nb)) ∧ Below w.heap.size w w' := by
  subst hp
  refine (parse_any l A nb cb nb w ht hS hB hc hm (by omega)).mono ?_
  rintro e w' ⟨A', c', rfl, ho, hb⟩
  obtain ⟨A2, c2, hv, _, _, hS2, _⟩ := own_sl ho
  cases hv
  exact ⟨A', rfl, hS2, hb⟩
/-- The last command. -/
theorem parse_last {a : List Int} {p : Nat} {x : Cm} (hp : (parseC a a.length).length = p + 1) (hx : (parseC a a.length)[p]? = some x) :
    ∃ q : Nat, q < a.length ∧ x.fr = (q : Int) ∧ x.tt = (endN a a.length q : Nat) ∧ q < endN a a.length q ∧ endN a a.length q ≤ a.length ∧ x = nextC a a.length q ∧ (parseC a a.length).getLast? = some x := by
  obtain ⟨q, hq, rfl⟩ := pF_mem _ _ _ _ _ (List.mem_of_getElem? hx)
  have he := endN_gt (l := a) hq
  refine ⟨q, hq, nextC_fr _ _ _, nextC_tt _ _ _, he.1, he.2, rfl, ?_⟩
  rw [List.getLast?_eq_getElem?, hp]; exact hx
def Joined (a b : List Int) : Prop := parseC (a ++ b) (a.length + b.length) = parseC a a.length ++ (parseC b b.length).map (shiftC a.length)
theorem joined_of {a b : List Int} (hB : Byt a) {p : Nat} {x : Cm} (hp : (parseC a a.length).length = p + 1) (hx : (parseC a a.length)[p]? = some x) (h : x.kd ≠ 0 ∨ 136 ≤ a.getD x.fr.toNat 0) : Joined a b := by
  unfold Joined
  rw [← List.length_append]
  refine parseC_join a b hB fun c hc => ?_
  rw [List.getLast?_eq_getElem?, hp] at hc
  have := hx.symm.trans hc
  cases this
  exact h
theorem joined_nil {a b : List Int} (hB : Byt a) (hp : (parseC a a.length).length = 0) : Joined a b := by
  unfold Joined
  rw [← List.length_append]
  refine parseC_join a b hB fun c hc => ?_
  rw [List.eq_nil_of_length_eq_zero hp] at hc
  cases hc
set_option maxRecDepth 100000 in
set_option maxHeartbeats 8000000 in
theorem scriptsJoin_walk (w : World) (ht : Tabs w) (A : Option Addr) (n c : Nat) (xs : List Value) (hnc : n ≤ c) (hcm : c ≤ maxLen) (hS : Sl w w.heap.size 1 A n xs) (hO : Oks (List.replicate n [Fk.i .u8]).flatten xs)
    (B : Option Addr) (m d : Nat) (ys : List Value) (hmd : m ≤ d) (hdm : d ≤ maxLen) (hS' : Sl w w.heap.size 1 B m ys) (hO' : Oks (List.replicate m [Fk.i .u8]).flatten ys) :
    Calls Tryd.prog 7 #[.slice A n c, .slice B m d] w fun e w' => e = .returned (.bool true) ∧ Below w.heap.size w w' := by
  obtain ⟨la, rfl, hla, hba⟩ := us_list hO
  obtain ⟨lb, rfl, hlb, hbb⟩ := us_list hO'
  have hsz := ht.size
  have HSa := Lib.hid hS
  have HSb := Lib.hid hS'
  have HLa := Lib.hid hla
  have HLb := Lib.hid hlb
  have HBa := Lib.hid hba
  have HBb := Lib.hid hbb
  have HT := Lib.hid ht
  have HNc := Lib.hid (And.intro hnc hcm)
  have HMd := Lib.hid (And.intro hmd hdm)
  clear hO hS hO' hS' ht hla hlb hba hbb hnc hcm hmd hdm
  have lives_end : ∀ W, Below w.heap.size w W → Calls Tryd.prog 8 #[] W fun e w' => e = .returned (.bool true) ∧ Below w.heap.size w w' := fun W hb =>
    (lives_any W (HT.out.below hb hsz)).mono fun e w' h => ⟨h.1, below_call hb h.2⟩
  have HLives := Lib.hid lives_end
  clear lives_end
  by_cases h3 : n ≤ 1500
  · have d0 : decide ((1500 : Int) < (n : Int)) = false := decide_eq_false (by omega)
    by_cases h4 : m ≤ 1500
    · have d1 : decide ((1500 : Int) < (m : Int)) = false := decide_eq_false (by omega)
      obtain ⟨i0, hi0, hz0, hz1, hz2⟩ := info_parts info5
      obtain ⟨p, hp⟩ : ∃ p, (parseC la n).length = p := ⟨_, rfl⟩
      obtain ⟨q, hq⟩ : ∃ q, (parseC lb m).length = q := ⟨_, rfl⟩
      have hpn : p ≤ n := by rw [← hp]; exact parseC_len _ _
      have hqm : q ≤ m := by rw [← hq]; exact parseC_len _ _
      have HP := Lib.hid hp
      have HQ := Lib.hid hq
      clear hp hq
      go_enter Tryd.func7, Tryd.ntmps7
      go_wp2_with fail
      refine (parse_small la A n c p w HT.out HSa.out HBa.out HNc.out.1 HNc.out.2 (by omega) HP.out).mono ?_
      rintro e w1 ⟨A1, rfl, hs1, hb1⟩
      have HB1 := Lib.hid hb1
      have HSb1 : Hid (Sl w1 w1.heap.size 1 B m (Us lb)) := (HSb.out.below hb1).mono hb1.size
      have HS1 := Lib.hid hs1
      clear hb1 hs1
      go_wp2_with fail
      refine (parse_small lb B m d q w1 (HT.out.below HB1.out hsz) HSb1.out HBb.out HMd.out.1 HMd.out.2 (by omega) HQ.out).mono ?_
      rintro e w2 ⟨A2, rfl, hs2, hb2⟩
      have HB2 := Lib.hid (below_call HB1.out hb2)
      have HSa2 : Hid (Sl w2 w2.heap.size 1 A n (Us la)) := (HSa.out.below HB2.out).mono HB2.out.size
      have HSb2 : Hid (Sl w2 w2.heap.size 1 B m (Us lb)) := (HSb1.out.below hb2).mono hb2.size
      have HP2 : Hid (Sl w2 w2.heap.size 9 A1 p (Cs Cm.L (parseC la n))) := (HS1.out.below hb2).mono hb2.size
      have HQ2 := Lib.hid hs2
      clear hb2 hs2 HSb1 HS1 HSa HSb
      go_upto_if 26 with fail
      go_cut [] (fun wx => Hid (Below w2.heap.size w2 wx) ∧ Hid (Joined la lb))
      case first =>
        rcases p with _ | p
        · have hJ : Hid (Joined la lb) := joined_nil HBa.out (by rw [HLa.out]; exact HP.out)
          go_wp2
          go_meet
          exact ⟨Below.refl _ _, hJ.out⟩
        · obtain ⟨b, off, x, rfl, hb, hx, hc⟩ := struct_at V_len HP2.out (Nat.lt_succ_self p)
          have hx' : (parseC la la.length)[p]? = some x := by rw [HLa.out]; exact hx
          obtain ⟨f, hf, hxf, hxt, hft, htn, _, _⟩ := parse_last (by rw [HLa.out]; exact HP.out) hx'
          obtain ⟨ba, oa, rfl, hba, hca⟩ := us_cell HSa2.out (show f < n by rw [← HLa.out]; exact hf)
          have hcf := hca f (by rw [← HLa.out]; exact hf)
          have hJ : x.kd ≠ 0 ∨ 136 ≤ la.getD f 0 → Joined la lb := fun h => joined_of HBa.out (by rw [HLa.out]; exact HP.out) hx' (by rw [hxf]; exact h)
          obtain ⟨x0, x1, x2, x3, x4, x5, x6, x7, x8⟩ := x
          obtain ⟨t, htt⟩ : ∃ t, t = endN la la.length f := ⟨_, rfl⟩
          rw [← htt] at hxt hft htn
          rw [HLa.out] at htn hf
          simp only at hxf hxt hJ
          subst hxf hxt
          obtain ⟨y, hy⟩ : ∃ y, y = la.getD f 0 := ⟨_, rfl⟩
          rw [← hy] at hcf hJ
          have HJ := Lib.hid hJ
          have d0 := hc 0 _ (by omega) rfl
          have d1 := hc 1 _ (by omega) rfl
          have d2 := hc 2 _ (by omega) rfl
          have d3 := hc 3 _ (by omega) rfl
          have d4 := hc 4 _ (by omega) rfl
          have d5 := hc 5 _ (by omega) rfl
          have d6 := hc 6 _ (by omega) rfl
          have d7 := hc 7 _ (by omega) rfl
          have d8 := hc 8 _ (by omega) rfl
          dsimp only at d0 d1 d2 d3 d4 d5 d6 d7 d8
          rw [Nat.add_zero] at d0
          clear hc hca hx hx' hy hJ htt
          have r2 : ((p + 1 : Nat) : Int) - 1 = (p : Int) := by omega
          have r0 : (0 : Int) ≤ (p : Int) := by omega
          have r1 : (p : Int) < ((p + 1 : Nat) : Int) := by omega
          have r3 : (0 : Int) ≤ (f : Int) := by omega
          have r4 : (f : Int) < (n : Int) := by omega
          by_cases hk : x0 = 0
          · subst hk
            by_cases h1 : (1 : Int) < (t : Int) - (f : Int)
            · have t1 : decide ((1 : Int) < (t : Int) - (f : Int)) = true := decide_eq_true h1
              go_wp2_with fail
              refine (HLives.out _ (below_call HB2.out ((Below.refl _ _).alloc (Nat.le_refl _) _))).mono ?_
              rintro e w4 ⟨rfl, hb4⟩
              go_wp2
              go_ret
              exact ⟨rfl, hb4⟩
            · have t1 : decide ((1 : Int) < (t : Int) - (f : Int)) = false := decide_eq_false h1
              by_cases h2 : y < 136
              · have t2 : decide (y < 136) = true := decide_eq_true h2
                go_wp2_with fail
                refine (HLives.out _ (below_call HB2.out ((Below.refl _ _).alloc (Nat.le_refl _) _))).mono ?_
                rintro e w4 ⟨rfl, hb4⟩
                go_wp2
                go_ret
                exact ⟨rfl, hb4⟩
              · have t2 : decide (y < 136) = false := decide_eq_false h2
                go_wp2
                go_meet
                exact ⟨(Below.refl _ _).alloc (Nat.le_refl _) _, HJ.out (.inr (by omega))⟩
          · have t0 : (x0 == 0) = false := by simp [hk]
            go_wp2
            go_meet
            exact ⟨(Below.refl _ _).alloc (Nat.le_refl _) _, HJ.out (.inl hk)⟩
      case rest =>
        obtain ⟨HBx, HJ⟩ := hcut
        obtain ⟨wo, rfl⟩ : ∃ wo, wo = wc := ⟨_, rfl⟩
        have HB3 := Lib.hid (below_call HB2.out HBx.out)
        have HSa3 : Hid (Sl wo wo.heap.size 1 A n (Us la)) := (HSa2.out.below HBx.out).mono HBx.out.size
        have HSb3 : Hid (Sl wo wo.heap.size 1 B m (Us lb)) := (HSb2.out.below HBx.out).mono HBx.out.size
        have HP3 : Hid (Sl wo wo.heap.size 9 A1 p (Cs Cm.L (parseC la n))) := (HP2.out.below HBx.out).mono HBx.out.size
        have HQ3 : Hid (Sl wo wo.heap.size 9 A2 q (Cs Cm.L (parseC lb m))) := (HQ2.out.below HBx.out).mono HBx.out.size
        clear HBx HB2 HSa2 HSb2 HP2 HQ2
        go_wp2_with (at_builtin; first
          | (refine wpList_append_sl rfl _ _ 22 rfl wo.heap.size 5 i0 _ 1 1 Tryd.underlying22 hi0 hz0 hz1 hz2 rfl (by omega) (.slice none 0 0) 0 [] rfl (World.ownsRow_nil _ _ _ _) wo.heap.size A n c (Us la) rfl HSa3.out (Us_one la) (by simp only [maxLen]; omega) (by omega) (Nat.le_refl _) ?_; intro v7 w7 hown7 hg7; have hb7 : Below wo.heap.size wo w7 := below_grown (Below.refl wo.heap.size wo) hg7 (World.ownsRow_nil wo wo.heap.size 5 1) (Nat.le_refl _) (Nat.le_refl _))
          | (refine wpList_append_sl rfl _ _ 22 rfl wo.heap.size 5 i0 _ 1 1 Tryd.underlying22 hi0 hz0 hz1 hz2 rfl (by omega) v7 (0 + n) ([] ++ Us la) rfl hown7 w7.heap.size B m d (Us lb) rfl ((HSb3.out.below hb7).mono hb7.size) (Us_one lb) (by simp only [maxLen]; omega) (by omega) hb7.size ?_; intro v8 w8 hown8 hg8; obtain ⟨A8, c8, hv8, hmc8, hcm8, hS8, _⟩ := own_sl hown8; subst hv8))
        have hb8 : Below wo.heap.size wo w8 := below_grown hb7 hg8 hown7 (Nat.le_refl _) hb7.size
        have hUs : ([] : List Value) ++ Us la ++ Us lb = Us (la ++ lb) := by rw [List.nil_append, Us_app]
        rw [hUs, Nat.zero_add] at hS8
        rw [Nat.zero_add] at hmc8
        have hJo : parseC (la ++ lb) (n + m) = parseC la n ++ (parseC lb m).map (shiftC n) := by
          have := HJ.out
          unfold Joined at this
          rw [HLa.out, HLb.out] at this
          exact this
        obtain ⟨r, hr⟩ : ∃ r, r = p + q := ⟨_, rfl⟩
        have HN : (parseC (la ++ lb) (n + m)).length = r := by rw [hJo, List.length_append, List.length_map, HP.out, HQ.out, hr]
        have HB8 := Lib.hid (below_call HB3.out hb8)
        have HPa := parse_small (la ++ lb) A8 (n + m) c8 r w8 (HT.out.below HB8.out hsz) hS8 (fun x hx => (List.mem_append.1 hx).elim (HBa.out x) (HBb.out x)) hmc8 hcm8 (by omega) HN
        rw [hJo] at HPa
        refine HPa.mono ?_
        rintro e w9 ⟨A9, rfl, hs9, hb9⟩
        have hb39 := below_call hb8 hb9
        have HB9 := Lib.hid (below_call HB8.out hb9)
        have HSn := Lib.hid (fun (k : Nat) (hk : k < r) => struct_at V_len hs9 hk)
        have HSl := Lib.hid (fun (k : Nat) (hk : k < p) => struct_at V_len ((HP3.out.below hb39).mono hb39.size) hk)
        have HSm := Lib.hid (fun (k : Nat) (hk : k < q) => struct_at V_len ((HQ3.out.below hb39).mono hb39.size) hk)
        have HR := Lib.hid hr
        have hrr : ((r : Int) != (p : Int) + (q : Int)) = false := by simp; omega
        have hr3 : r ≤ 3000 := by omega
        clear hb39 hs9 hb9 HPa HN hJo hmc8 hcm8 hS8 hown8 hown7 hg7 hg8 hb7 hb8 hUs HB8 HB3 HSa3 HSb3 HP3 HQ3 HJ hr hi0 hz0 hz1 hz2
        go_wp2
        go_loopw [9] (fun i wr => ∃ k : Nat, k ≤ r ∧ i = .int .i64 k ∧ Hid (Below w9.heap.size w9 wr)) (fun i _ => r - (intOf i).toNat)
        case atStart => exact ⟨0, Nat.zero_le _, rfl, Below.refl _ _⟩
        case round =>
          obtain ⟨k, hk, rfl, hst⟩ := hrel
          obtain ⟨wo, rfl⟩ : ∃ wo, wo = wr := ⟨_, rfl⟩
          by_cases hkr : k < r
          · obtain ⟨b, off, u, rfl, hb, hu, hc⟩ := HSn.out k hkr
            have r0 : (0 : Int) ≤ (k : Int) := by omega
            have r1 : (k : Int) < (r : Int) := by omega
            by_cases hkp : k < p
            · obtain ⟨b2, off2, z, rfl, hb2, hz, hc2⟩ := HSl.out k hkp
              have r2 : (k : Int) < (p : Int) := by omega
              have r2' : decide ((k : Int) < (p : Int)) = true := decide_eq_true r2
              rw [List.getElem?_append_left (by rw [HP.out]; exact hkp)] at hu
              obtain rfl : u = z := Option.some.inj (hu.symm.trans hz)
              have hneq : ∀ w, (binOp .neq 34 u.V u.V).run Tryd.prog w = .ok (.bool false) w := fun w => by rw [cm_neq, decide_eq_true rfl]; rfl
              have hgd : ∀ a b w, (eqGuard .neq 34 a b u.V u.V).run Tryd.prog w = .ok () w := fun a b w => cm_guard .neq (.inr rfl) _ _ a b w
              obtain ⟨z0, z1, z2, z3, z4, z5, z6, z7, z8⟩ := u
              unfold Cm.V at hneq hgd
              dsimp only at hneq hgd
              have hcell : ∀ i u, i < 9 → (Cm.L ⟨z0, z1, z2, z3, z4, z5, z6, z7, z8⟩)[i]? = some u → wo.cell? ⟨b, off + k * 9 + i, none⟩ = some u := fun i u hi hu => (hst.out.cell (p := ⟨b, off + k * 9 + i, none⟩) hb).trans (hc i u hi hu)
              have hcell2 : ∀ i u, i < 9 → (Cm.L ⟨z0, z1, z2, z3, z4, z5, z6, z7, z8⟩)[i]? = some u → wo.cell? ⟨b2, off2 + k * 9 + i, none⟩ = some u := fun i u hi hu => (hst.out.cell (p := ⟨b2, off2 + k * 9 + i, none⟩) hb2).trans (hc2 i u hi hu)
              have c0 := hcell 0 _ (by omega) rfl
              have c1 := hcell 1 _ (by omega) rfl
              have c2 := hcell 2 _ (by omega) rfl
              have c3 := hcell 3 _ (by omega) rfl
              have c4 := hcell 4 _ (by omega) rfl
              have c5 := hcell 5 _ (by omega) rfl
              have c6 := hcell 6 _ (by omega) rfl
              have c7 := hcell 7 _ (by omega) rfl
              have c8 := hcell 8 _ (by omega) rfl
              have e0 := hcell2 0 _ (by omega) rfl
              have e1 := hcell2 1 _ (by omega) rfl
              have e2 := hcell2 2 _ (by omega) rfl
              have e3 := hcell2 3 _ (by omega) rfl
              have e4 := hcell2 4 _ (by omega) rfl
              have e5 := hcell2 5 _ (by omega) rfl
              have e6 := hcell2 6 _ (by omega) rfl
              have e7 := hcell2 7 _ (by omega) rfl
              have e8 := hcell2 8 _ (by omega) rfl
              dsimp only at c0 c1 c2 c3 c4 c5 c6 c7 c8 e0 e1 e2 e3 e4 e5 e6 e7 e8
              rw [Nat.add_zero] at c0 e0
              clear hcell hcell2 hc hc2 hu hz
              go_upto_region 16 with fail
              have hb_ : b < wo.heap.size := Nat.lt_of_lt_of_le hb hst.out.size
              have hb2_ : b2 < wo.heap.size := Nat.lt_of_lt_of_le hb2 hst.out.size
              have HC : Hid (∀ wr : World, Below wo.heap.size wo wr → (wr.cell? ⟨b, off + k * 9, none⟩ = some (.int .u8 z0) ∧ wr.cell? ⟨b, off + k * 9 + 1, none⟩ = some (.int .i64 z1) ∧ wr.cell? ⟨b, off + k * 9 + 2, none⟩ = some (.int .i64 z2) ∧ wr.cell? ⟨b, off + k * 9 + 3, none⟩ = some (.int .i64 z3) ∧ wr.cell? ⟨b, off + k * 9 + 4, none⟩ = some (.int .i64 z4) ∧ wr.cell? ⟨b, off + k * 9 + 5, none⟩ = some (.int .u8 z5) ∧ wr.cell? ⟨b, off + k * 9 + 6, none⟩ = some (.int .u8 z6) ∧ wr.cell? ⟨b, off + k * 9 + 7, none⟩ = some (.int .u64 z7) ∧ wr.cell? ⟨b, off + k * 9 + 8, none⟩ = some (.int .u64 z8) ∧ wr.cell? ⟨b2, off2 + k * 9, none⟩ = some (.int .u8 z0) ∧ wr.cell? ⟨b2, off2 + k * 9 + 1, none⟩ = some (.int .i64 z1) ∧ wr.cell? ⟨b2, off2 + k * 9 + 2, none⟩ = some (.int .i64 z2) ∧ wr.cell? ⟨b2, off2 + k * 9 + 3, none⟩ = some (.int .i64 z3) ∧ wr.cell? ⟨b2, off2 + k * 9 + 4, none⟩ = some (.int .i64 z4) ∧ wr.cell? ⟨b2, off2 + k * 9 + 5, none⟩ = some (.int .u8 z5) ∧ wr.cell? ⟨b2, off2 + k * 9 + 6, none⟩ = some (.int .u8 z6) ∧ wr.cell? ⟨b2, off2 + k * 9 + 7, none⟩ = some (.int .u64 z7) ∧ wr.cell? ⟨b2, off2 + k * 9 + 8, none⟩ = some (.int .u64 z8) ∧ Below w9.heap.size w9 wr)) := fun wr h => ⟨(h.cell (p := ⟨b, off + k * 9, none⟩) hb_).trans c0, (h.cell (p := ⟨b, off + k * 9 + 1, none⟩) hb_).trans c1, (h.cell (p := ⟨b, off + k * 9 + 2, none⟩) hb_).trans c2, (h.cell (p := ⟨b, off + k * 9 + 3, none⟩) hb_).trans c3, (h.cell (p := ⟨b, off + k * 9 + 4, none⟩) hb_).trans c4, (h.cell (p := ⟨b, off + k * 9 + 5, none⟩) hb_).trans c5, (h.cell (p := ⟨b, off + k * 9 + 6, none⟩) hb_).trans c6, (h.cell (p := ⟨b, off + k * 9 + 7, none⟩) hb_).trans c7, (h.cell (p := ⟨b, off + k * 9 + 8, none⟩) hb_).trans c8, (h.cell (p := ⟨b2, off2 + k * 9, none⟩) hb2_).trans e0, (h.cell (p := ⟨b2, off2 + k * 9 + 1, none⟩) hb2_).trans e1, (h.cell (p := ⟨b2, off2 + k * 9 + 2, none⟩) hb2_).trans e2, (h.cell (p := ⟨b2, off2 + k * 9 + 3, none⟩) hb2_).trans e3, (h.cell (p := ⟨b2, off2 + k * 9 + 4, none⟩) hb2_).trans e4, (h.cell (p := ⟨b2, off2 + k * 9 + 5, none⟩) hb2_).trans e5, (h.cell (p := ⟨b2, off2 + k * 9 + 6, none⟩) hb2_).trans e6, (h.cell (p := ⟨b2, off2 + k * 9 + 7, none⟩) hb2_).trans e7, (h.cell (p := ⟨b2, off2 + k * 9 + 8, none⟩) hb2_).trans e8, below_call hst.out h⟩
              have hbw : Below wo.heap.size wo wo.drew := below_drewN (Below.refl _ _) 1
              clear c0 c1 c2 c3 c4 c5 c6 c7 c8 e0 e1 e2 e3 e4 e5 e6 e7 e8
              obtain ⟨c0, c1, c2, c3, c4, c5, c6, c7, c8, e0, e1, e2, e3, e4, e5, e6, e7, e8, _⟩ := HC.out _ hbw
              go_cut [84] (fun v wx => v = .bool false ∧ Hid (Below w9.heap.size w9 wx))
              case first =>
                go_region_held3 (fun wr => wr.cell? ⟨b, off + k * 9, none⟩ = some (.int .u8 z0) ∧ wr.cell? ⟨b, off + k * 9 + 1, none⟩ = some (.int .i64 z1) ∧ wr.cell? ⟨b, off + k * 9 + 2, none⟩ = some (.int .i64 z2) ∧ wr.cell? ⟨b, off + k * 9 + 3, none⟩ = some (.int .i64 z3) ∧ wr.cell? ⟨b, off + k * 9 + 4, none⟩ = some (.int .i64 z4) ∧ wr.cell? ⟨b, off + k * 9 + 5, none⟩ = some (.int .u8 z5) ∧ wr.cell? ⟨b, off + k * 9 + 6, none⟩ = some (.int .u8 z6) ∧ wr.cell? ⟨b, off + k * 9 + 7, none⟩ = some (.int .u64 z7) ∧ wr.cell? ⟨b, off + k * 9 + 8, none⟩ = some (.int .u64 z8) ∧ wr.cell? ⟨b2, off2 + k * 9, none⟩ = some (.int .u8 z0) ∧ wr.cell? ⟨b2, off2 + k * 9 + 1, none⟩ = some (.int .i64 z1) ∧ wr.cell? ⟨b2, off2 + k * 9 + 2, none⟩ = some (.int .i64 z2) ∧ wr.cell? ⟨b2, off2 + k * 9 + 3, none⟩ = some (.int .i64 z3) ∧ wr.cell? ⟨b2, off2 + k * 9 + 4, none⟩ = some (.int .i64 z4) ∧ wr.cell? ⟨b2, off2 + k * 9 + 5, none⟩ = some (.int .u8 z5) ∧ wr.cell? ⟨b2, off2 + k * 9 + 6, none⟩ = some (.int .u8 z6) ∧ wr.cell? ⟨b2, off2 + k * 9 + 7, none⟩ = some (.int .u64 z7) ∧ wr.cell? ⟨b2, off2 + k * 9 + 8, none⟩ = some (.int .u64 z8) ∧ Below w9.heap.size w9 wr)
                  (first
                    | exact HC.out _ hbw
                    | (go_split_ands; exact HC.out _ (by assumption)))
                  (fail)
                all_goals go_split_ands
                all_goals (go_step; go_step)
                all_goals go_meet
                all_goals exact ⟨rfl, by unfold Hid; assumption⟩
              case rest =>
                obtain ⟨rfl, HBy⟩ := hcut
                clear c0 c1 c2 c3 c4 c5 c6 c7 c8 e0 e1 e2 e3 e4 e5 e6 e7 e8 HC hneq hgd hbw
                go_wp2
                go_roundw
                case rel => exact ⟨k + 1, by omega, by go_num, HBy.out⟩
                case measure => simp [intOf]; omega
            · obtain ⟨j, hj⟩ : ∃ j, k = p + j := ⟨k - p, by omega⟩
              have hjq : j < q := by have := HR.out; omega
              obtain ⟨b2, off2, z, rfl, hb2, hz, hc2⟩ := HSm.out j hjq
              have r2' : decide ((k : Int) < (p : Int)) = false := decide_eq_false (by omega)
              have r3 : (k : Int) - (p : Int) = (j : Int) := by omega
              have r4 : (j : Int) < (q : Int) := by omega
              have r5 : (0 : Int) ≤ (j : Int) := by omega
              rw [hj, List.getElem?_append_right (by rw [HP.out]; omega), HP.out, Nat.add_sub_cancel_left, List.getElem?_map, hz, Option.map_some] at hu
              obtain rfl : shiftC n z = u := Option.some.inj hu
              obtain ⟨g, hg, hzg⟩ := pF_mem _ _ _ _ _ (List.mem_of_getElem? hz)
              have hz1 : z.fr = (g : Nat) := by rw [hzg, nextC_fr]
              have hz2 : z.tt = (endN lb m g : Nat) := by rw [hzg, nextC_tt]
              have hz3 := (endN_gt (l := lb) hg).2
              generalize endN lb m g = t at hz2 hz3
              have hneq : ∀ w, (binOp .neq 34 (shiftC n z).V (shiftC n z).V).run Tryd.prog w = .ok (.bool false) w := fun w => by rw [cm_neq, decide_eq_true rfl]; rfl
              have hgd : ∀ a b w, (eqGuard .neq 34 a b (shiftC n z).V (shiftC n z).V).run Tryd.prog w = .ok () w := fun a b w => cm_guard .neq (.inr rfl) _ _ a b w
              obtain ⟨z0, z1, z2, z3, z4, z5, z6, z7, z8⟩ := z
              simp only at hz1 hz2
              subst hz1 hz2
              unfold Cm.V shiftC at hneq hgd
              dsimp only at hneq hgd
              have hcell : ∀ i u, i < 9 → (Cm.L (shiftC n ⟨z0, (g : Nat), (t : Nat), z3, z4, z5, z6, z7, z8⟩))[i]? = some u → wo.cell? ⟨b, off + k * 9 + i, none⟩ = some u := fun i u hi hu => (hst.out.cell (p := ⟨b, off + k * 9 + i, none⟩) hb).trans (hc i u hi hu)
              have hcell2 : ∀ i u, i < 9 → (Cm.L ⟨z0, (g : Nat), (t : Nat), z3, z4, z5, z6, z7, z8⟩)[i]? = some u → wo.cell? ⟨b2, off2 + j * 9 + i, none⟩ = some u := fun i u hi hu => (hst.out.cell (p := ⟨b2, off2 + j * 9 + i, none⟩) hb2).trans (hc2 i u hi hu)
              have c0 := hcell 0 _ (by omega) rfl
              have c1 := hcell 1 _ (by omega) rfl
              have c2 := hcell 2 _ (by omega) rfl
              have c3 := hcell 3 _ (by omega) rfl
              have c4 := hcell 4 _ (by omega) rfl
              have c5 := hcell 5 _ (by omega) rfl
              have c6 := hcell 6 _ (by omega) rfl
              have c7 := hcell 7 _ (by omega) rfl
              have c8 := hcell 8 _ (by omega) rfl
              have e0 := hcell2 0 _ (by omega) rfl
              have e1 := hcell2 1 _ (by omega) rfl
              have e2 := hcell2 2 _ (by omega) rfl
              have e3 := hcell2 3 _ (by omega) rfl
              have e4 := hcell2 4 _ (by omega) rfl
              have e5 := hcell2 5 _ (by omega) rfl
              have e6 := hcell2 6 _ (by omega) rfl
              have e7 := hcell2 7 _ (by omega) rfl
              have e8 := hcell2 8 _ (by omega) rfl
              dsimp only [shiftC] at c0 c1 c2 c3 c4 c5 c6 c7 c8 e0 e1 e2 e3 e4 e5 e6 e7 e8
              rw [Nat.add_zero] at c0 e0
              clear hcell hcell2 hc hc2 hu hz hzg hj
              go_upto_region 21 with fail
              have HK := Lib.hid (Bk.made wo 34 [.int .u8 z0, .int .i64 ((g : Int) + (n : Int)), .int .i64 ((t : Int) + (n : Int)), .int .i64 z3, .int .i64 z4, .int .u8 z5, .int .u8 z6, .int .u64 z7, .int .u64 z8])
              have HB1 : Hid (Below wo.heap.size wo (wo.alloc (.cells [Value.int .u8 z0, .int .i64 ((g : Int) + (n : Int)), .int .i64 ((t : Int) + (n : Int)), .int .i64 z3, .int .i64 z4, .int .u8 z5, .int .u8 z6, .int .u64 z7, .int .u64 z8].toArray 34))) := (Below.refl _ _).alloc (Nat.le_refl _) _
              change Code.wp _ _ _ _ (wo.alloc (.cells [Value.int .u8 z0, .int .i64 ((g : Int) + (n : Int)), .int .i64 ((t : Int) + (n : Int)), .int .i64 z3, .int .i64 z4, .int .u8 z5, .int .u8 z6, .int .u64 z7, .int .u64 z8].toArray 34))
              generalize wo.alloc (.cells [Value.int .u8 z0, .int .i64 ((g : Int) + (n : Int)), .int .i64 ((t : Int) + (n : Int)), .int .i64 z3, .int .i64 z4, .int .u8 z5, .int .u8 z6, .int .u64 z7, .int .u64 z8].toArray 34) = W1 at HK HB1 ⊢
              have hb_ : b < W1.heap.size := Nat.lt_of_lt_of_le hb (Nat.le_trans hst.out.size HB1.out.size)
              have HB10 := Lib.hid (below_call hst.out HB1.out)
              have hg1 := HK.out.size
              obtain ⟨g1, hgg⟩ : ∃ g1, g1 = wo.heap.size := ⟨_, rfl⟩
              rw [← hgg] at HK hg1 ⊢
              clear e0 e1 e2 e3 e4 e5 e6 e7 e8
              obtain ⟨e0, e1, e2, e3, e4, e5, e6, e7, e8⟩ := nine_cells HK.out
              replace c0 := (HB1.out.cell (p := ⟨b, off + k * 9, none⟩) (Nat.lt_of_lt_of_le hb hst.out.size)).trans c0
              replace c1 := (HB1.out.cell (p := ⟨b, off + k * 9 + 1, none⟩) (Nat.lt_of_lt_of_le hb hst.out.size)).trans c1
              replace c2 := (HB1.out.cell (p := ⟨b, off + k * 9 + 2, none⟩) (Nat.lt_of_lt_of_le hb hst.out.size)).trans c2
              replace c3 := (HB1.out.cell (p := ⟨b, off + k * 9 + 3, none⟩) (Nat.lt_of_lt_of_le hb hst.out.size)).trans c3
              replace c4 := (HB1.out.cell (p := ⟨b, off + k * 9 + 4, none⟩) (Nat.lt_of_lt_of_le hb hst.out.size)).trans c4
              replace c5 := (HB1.out.cell (p := ⟨b, off + k * 9 + 5, none⟩) (Nat.lt_of_lt_of_le hb hst.out.size)).trans c5
              replace c6 := (HB1.out.cell (p := ⟨b, off + k * 9 + 6, none⟩) (Nat.lt_of_lt_of_le hb hst.out.size)).trans c6
              replace c7 := (HB1.out.cell (p := ⟨b, off + k * 9 + 7, none⟩) (Nat.lt_of_lt_of_le hb hst.out.size)).trans c7
              replace c8 := (HB1.out.cell (p := ⟨b, off + k * 9 + 8, none⟩) (Nat.lt_of_lt_of_le hb hst.out.size)).trans c8
              clear HK HB1 hst hgg
              have HC : Hid (∀ wr : World, Below W1.heap.size W1 wr → (wr.cell? ⟨b, off + k * 9, none⟩ = some (.int .u8 z0) ∧ wr.cell? ⟨b, off + k * 9 + 1, none⟩ = some (.int .i64 ((g : Int) + (n : Int))) ∧ wr.cell? ⟨b, off + k * 9 + 2, none⟩ = some (.int .i64 ((t : Int) + (n : Int))) ∧ wr.cell? ⟨b, off + k * 9 + 3, none⟩ = some (.int .i64 z3) ∧ wr.cell? ⟨b, off + k * 9 + 4, none⟩ = some (.int .i64 z4) ∧ wr.cell? ⟨b, off + k * 9 + 5, none⟩ = some (.int .u8 z5) ∧ wr.cell? ⟨b, off + k * 9 + 6, none⟩ = some (.int .u8 z6) ∧ wr.cell? ⟨b, off + k * 9 + 7, none⟩ = some (.int .u64 z7) ∧ wr.cell? ⟨b, off + k * 9 + 8, none⟩ = some (.int .u64 z8) ∧ wr.cell? ⟨g1, 0, none⟩ = some (.int .u8 z0) ∧ wr.cell? ⟨g1, 1, none⟩ = some (.int .i64 ((g : Int) + (n : Int))) ∧ wr.cell? ⟨g1, 2, none⟩ = some (.int .i64 ((t : Int) + (n : Int))) ∧ wr.cell? ⟨g1, 3, none⟩ = some (.int .i64 z3) ∧ wr.cell? ⟨g1, 4, none⟩ = some (.int .i64 z4) ∧ wr.cell? ⟨g1, 5, none⟩ = some (.int .u8 z5) ∧ wr.cell? ⟨g1, 6, none⟩ = some (.int .u8 z6) ∧ wr.cell? ⟨g1, 7, none⟩ = some (.int .u64 z7) ∧ wr.cell? ⟨g1, 8, none⟩ = some (.int .u64 z8) ∧ Below w9.heap.size w9 wr)) := fun wr h => ⟨(h.cell (p := ⟨b, off + k * 9, none⟩) hb_).trans c0, (h.cell (p := ⟨b, off + k * 9 + 1, none⟩) hb_).trans c1, (h.cell (p := ⟨b, off + k * 9 + 2, none⟩) hb_).trans c2, (h.cell (p := ⟨b, off + k * 9 + 3, none⟩) hb_).trans c3, (h.cell (p := ⟨b, off + k * 9 + 4, none⟩) hb_).trans c4, (h.cell (p := ⟨b, off + k * 9 + 5, none⟩) hb_).trans c5, (h.cell (p := ⟨b, off + k * 9 + 6, none⟩) hb_).trans c6, (h.cell (p := ⟨b, off + k * 9 + 7, none⟩) hb_).trans c7, (h.cell (p := ⟨b, off + k * 9 + 8, none⟩) hb_).trans c8, (h.cell (p := ⟨g1, 0, none⟩) hg1).trans e0, (h.cell (p := ⟨g1, 1, none⟩) hg1).trans e1, (h.cell (p := ⟨g1, 2, none⟩) hg1).trans e2, (h.cell (p := ⟨g1, 3, none⟩) hg1).trans e3, (h.cell (p := ⟨g1, 4, none⟩) hg1).trans e4, (h.cell (p := ⟨g1, 5, none⟩) hg1).trans e5, (h.cell (p := ⟨g1, 6, none⟩) hg1).trans e6, (h.cell (p := ⟨g1, 7, none⟩) hg1).trans e7, (h.cell (p := ⟨g1, 8, none⟩) hg1).trans e8, below_call HB10.out h⟩
              have hbw : Below W1.heap.size W1 W1.drew := below_drewN (Below.refl _ _) 1
              clear c0 c1 c2 c3 c4 c5 c6 c7 c8 e0 e1 e2 e3 e4 e5 e6 e7 e8
              obtain ⟨c0, c1, c2, c3, c4, c5, c6, c7, c8, e0, e1, e2, e3, e4, e5, e6, e7, e8, _⟩ := HC.out _ hbw
              go_cut [109] (fun v wx => v = .bool false ∧ Hid (Below w9.heap.size w9 wx))
              case first =>
                go_region_held3 (fun wr => wr.cell? ⟨b, off + k * 9, none⟩ = some (.int .u8 z0) ∧ wr.cell? ⟨b, off + k * 9 + 1, none⟩ = some (.int .i64 ((g : Int) + (n : Int))) ∧ wr.cell? ⟨b, off + k * 9 + 2, none⟩ = some (.int .i64 ((t : Int) + (n : Int))) ∧ wr.cell? ⟨b, off + k * 9 + 3, none⟩ = some (.int .i64 z3) ∧ wr.cell? ⟨b, off + k * 9 + 4, none⟩ = some (.int .i64 z4) ∧ wr.cell? ⟨b, off + k * 9 + 5, none⟩ = some (.int .u8 z5) ∧ wr.cell? ⟨b, off + k * 9 + 6, none⟩ = some (.int .u8 z6) ∧ wr.cell? ⟨b, off + k * 9 + 7, none⟩ = some (.int .u64 z7) ∧ wr.cell? ⟨b, off + k * 9 + 8, none⟩ = some (.int .u64 z8) ∧ wr.cell? ⟨g1, 0, none⟩ = some (.int .u8 z0) ∧ wr.cell? ⟨g1, 1, none⟩ = some (.int .i64 ((g : Int) + (n : Int))) ∧ wr.cell? ⟨g1, 2, none⟩ = some (.int .i64 ((t : Int) + (n : Int))) ∧ wr.cell? ⟨g1, 3, none⟩ = some (.int .i64 z3) ∧ wr.cell? ⟨g1, 4, none⟩ = some (.int .i64 z4) ∧ wr.cell? ⟨g1, 5, none⟩ = some (.int .u8 z5) ∧ wr.cell? ⟨g1, 6, none⟩ = some (.int .u8 z6) ∧ wr.cell? ⟨g1, 7, none⟩ = some (.int .u64 z7) ∧ wr.cell? ⟨g1, 8, none⟩ = some (.int .u64 z8) ∧ Below w9.heap.size w9 wr)
                  (first
                    | exact HC.out _ hbw
                    | (go_split_ands; exact HC.out _ (by assumption)))
                  (fail)
                all_goals go_split_ands
                all_goals (go_step; go_step)
                all_goals go_meet
                all_goals exact ⟨rfl, by unfold Hid; assumption⟩
              case rest =>
                obtain ⟨rfl, HBy⟩ := hcut
                clear c0 c1 c2 c3 c4 c5 c6 c7 c8 e0 e1 e2 e3 e4 e5 e6 e7 e8 HC hneq hgd hbw
                go_wp2
                go_roundw
                case rel => exact ⟨k + 1, by omega, by go_num, HBy.out⟩
                case measure => simp [intOf]; omega
          · obtain rfl : k = r := by omega
            have HBo := Lib.hid (below_call HB9.out hst.out)
            clear hst HSn HSl HSm hkr
            go_wp2_with fail
            refine (HLives.out _ HBo.out).mono ?_
            rintro e w4 ⟨rfl, hb4⟩
            go_wp2
            go_ret
            exact ⟨rfl, hb4⟩
    · have d1 : decide ((1500 : Int) < (m : Int)) = true := decide_eq_true (by omega)
      go_enter Tryd.func7, Tryd.ntmps7
      go_wp2_with fail
      refine (HLives.out w (Below.refl _ _)).mono ?_
      rintro e w2 ⟨rfl, hb2⟩
      go_wp2
      go_ret
      exact ⟨rfl, hb2⟩
  · have d0 : decide ((1500 : Int) < (n : Int)) = true := decide_eq_true (by omega)
    go_enter Tryd.func7, Tryd.ntmps7
    go_wp2_with fail
    refine (HLives.out w (Below.refl _ _)).mono ?_
    rintro e w2 ⟨rfl, hb2⟩
    go_wp2
    go_ret
    exact ⟨rfl, hb2⟩
end Go.Proofs.YtkcdgoohchkkaaaDoor
