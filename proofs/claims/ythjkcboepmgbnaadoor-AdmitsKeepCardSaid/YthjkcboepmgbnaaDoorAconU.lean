/-
  A law's arguments: a state, a command, a slice of commands. No condition.
-/
import Derived.Test.YthjkcboepmgbnaaDoorAconT
set_option linter.unusedSimpArgs false
set_option linter.unusedVariables false
namespace Go.Proofs.YthjkcboepmgbnaaDoor
open Go Go.RowKit
def Cs (f : Cm → List Value) (l : List Cm) : List Value := l.flatMap f
theorem Cs_len (f : Cm → List Value) (hf : ∀ c, (f c).length = 9) (l : List Cm) : (Cs f l).length = l.length * 9 := by
  induction l with
  | nil => rfl
  | cons c l ih => show (f c ++ Cs f l).length = _; rw [List.length_append, ih, hf, List.length_cons]; omega
theorem V_len (c : Cm) : c.L.length = 9 := rfl
theorem Cs_at {f : Cm → List Value} (hf : ∀ c, (f c).length = 9) : ∀ {l : List Cm} {k : Nat} {c : Cm}, l[k]? = some c → ∀ i, i < 9 → (Cs f l)[k * 9 + i]? = (f c)[i]? := by
  intro l
  induction l with
  | nil => intro k c h; simp at h
  | cons x l ih =>
    intro k c h i hi
    show (f x ++ Cs f l)[k * 9 + i]? = _
    cases k with
    | zero =>
      have e : x = c := by simpa using h
      subst e
      rw [Nat.zero_mul, Nat.zero_add, List.getElem?_append_left (by rw [hf]; exact hi)]
    | succ k =>
      rw [List.getElem?_append_right (by rw [hf]; omega), hf, show (k + 1) * 9 + i - 9 = k * 9 + i by omega]
      exact ih (by simpa using h) i hi
theorem u8_wf {n : Int} (h : (Lit.int .u8 n).wf = true) : 0 ≤ n ∧ n < 256 := by
  simp only [Lit.wf, Bool.and_eq_true, IntKind.min, IntKind.max] at h
  have h1 : (0 : Int) ≤ n := by simpa [IntKind.signed] using h.1
  have h2 : n ≤ 255 := by simpa [IntKind.signed, IntKind.bits] using h.2
  omega
theorem u64_wf {n : Int} (h : (Lit.int .u64 n).wf = true) : 0 ≤ n ∧ n < 18446744073709551616 := by
  simp only [Lit.wf, Bool.and_eq_true, IntKind.min, IntKind.max] at h
  have h1 : (0 : Int) ≤ n := by simpa [IntKind.signed] using h.1
  have h2 : n ≤ 18446744073709551615 := by simpa [IntKind.signed, IntKind.bits] using h.2
  omega
theorem i64_wf {n : Int} (h : (Lit.int .i64 n).wf = true) : -9223372036854775808 ≤ n ∧ n ≤ 9223372036854775807 := by
  simp only [Lit.wf, Bool.and_eq_true, IntKind.min, IntKind.max] at h
  have h1 : (-9223372036854775808 : Int) ≤ n := by simpa [IntKind.signed, IntKind.bits] using h.1
  have h2 : n ≤ 9223372036854775807 := by simpa [IntKind.signed, IntKind.bits] using h.2
  omega
def CmdK : List Fk := [.i .u8, .i .i64, .i .i64, .i .i64, .i .i64, .i .u8, .i .u8, .i .u64, .i .u64]
/-- A slice of commands as a list of them. -/
theorem cmd_list {n : Nat} : ∀ {xs : List Value}, Oks (List.replicate n CmdK).flatten xs → ∃ l : List Cm, xs = Cs Cm.L l ∧ l.length = n ∧ ∀ x ∈ l, x.ok := by
  induction n with
  | zero => intro xs h; exact ⟨[], h.nil_inv, rfl, fun x hx => by cases hx⟩
  | succ n ih =>
    intro xs h
    rw [List.replicate_succ, List.flatten_cons] at h
    change Oks (Fk.i .u8 :: Fk.i .i64 :: Fk.i .i64 :: Fk.i .i64 :: Fk.i .i64 :: Fk.i .u8 :: Fk.i .u8 :: Fk.i .u64 :: Fk.i .u64 :: (List.replicate n CmdK).flatten) xs at h
    obtain ⟨v0, us0, rfl, ⟨x0, rfl, w0⟩, t0⟩ := Oks.cons_inv h
    obtain ⟨v1, us1, rfl, ⟨x1, rfl, w1⟩, t1⟩ := Oks.cons_inv t0
    obtain ⟨v2, us2, rfl, ⟨x2, rfl, w2⟩, t2⟩ := Oks.cons_inv t1
    obtain ⟨v3, us3, rfl, ⟨x3, rfl, w3⟩, t3⟩ := Oks.cons_inv t2
    obtain ⟨v4, us4, rfl, ⟨x4, rfl, w4⟩, t4⟩ := Oks.cons_inv t3
    obtain ⟨v5, us5, rfl, ⟨x5, rfl, w5⟩, t5⟩ := Oks.cons_inv t4
    obtain ⟨v6, us6, rfl, ⟨x6, rfl, w6⟩, t6⟩ := Oks.cons_inv t5
    obtain ⟨v7, us7, rfl, ⟨x7, rfl, w7⟩, t7⟩ := Oks.cons_inv t6
    obtain ⟨v8, us8, rfl, ⟨x8, rfl, w8⟩, t8⟩ := Oks.cons_inv t7
    obtain ⟨l, rfl, hl, hok⟩ := ih t8
    refine ⟨⟨x0, x1, x2, x3, x4, x5, x6, x7, x8⟩ :: l, rfl, by simp [hl], fun x hx => ?_⟩
    rcases List.mem_cons.1 hx with rfl | hx
    · exact ⟨(u8_wf w0).1, (u8_wf w0).2, (i64_wf w1).1, (i64_wf w1).2, (i64_wf w2).1, (i64_wf w2).2, (i64_wf w3).1, (i64_wf w3).2, (i64_wf w4).1, (i64_wf w4).2, (u8_wf w5).1, (u8_wf w5).2, (u8_wf w6).1, (u8_wf w6).2, (u64_wf w7).1, (u64_wf w7).2, (u64_wf w8).1, (u64_wf w8).2⟩
    · exact hok x hx
theorem oks_bools {ks : List Fk} : ∀ {n : Nat} {vs : List Value}, Oks (List.replicate n .b ++ ks) vs → ∃ (l : List Bool) (us : List Value), l.length = n ∧ vs = Bs l ++ us ∧ Oks ks us
  | 0, vs, h => ⟨[], vs, rfl, rfl, h⟩
  | n + 1, vs, h => by
    rw [List.replicate_succ, List.cons_append] at h
    obtain ⟨v, us, rfl, ⟨b, rfl⟩, t⟩ := Oks.cons_inv h
    obtain ⟨l, us', hl, rfl, ho⟩ := oks_bools t
    exact ⟨b :: l, us', by simp [hl], rfl, ho⟩
theorem oks_words {ks : List Fk} : ∀ {n : Nat} {vs : List Value}, Oks (List.replicate n (.i .u64) ++ ks) vs → ∃ (l : List Int) (us : List Value), l.length = n ∧ (∀ x ∈ l, 0 ≤ x ∧ x < 18446744073709551616) ∧ vs = Ws l ++ us ∧ Oks ks us
  | 0, vs, h => ⟨[], vs, rfl, fun x hx => (by cases hx), rfl, h⟩
  | n + 1, vs, h => by
    rw [List.replicate_succ, List.cons_append] at h
    obtain ⟨v, us, rfl, ⟨x, rfl, wx⟩, t⟩ := Oks.cons_inv h
    obtain ⟨l, us', hl, hx, rfl, ho⟩ := oks_words t
    refine ⟨x :: l, us', by simp [hl], fun y hy => ?_, rfl, ho⟩
    rcases List.mem_cons.1 hy with rfl | hy
    · exact u64_wf wx
    · exact hx y hy
def StK : List Fk := [.i .u8, .i .u8, .i .u8, .i .u64] ++ (List.replicate 16 .b ++ (List.replicate 16 .b ++ ([.b] ++ (List.replicate 32 (.i .u64) ++ [.i .i64, .b]))))
/-- An argument that is a state. -/
theorem st_arg {vs : List Value} (h : Oks StK vs) : ∃ s : St, s.ok ∧ vs = s.C := by
  unfold StK at h
  obtain ⟨v0, us0, rfl, ⟨x0, rfl, w0⟩, t0⟩ := Oks.cons_inv h
  obtain ⟨v1, us1, rfl, ⟨x1, rfl, w1⟩, t1⟩ := Oks.cons_inv t0
  obtain ⟨v2, us2, rfl, ⟨x2, rfl, w2⟩, t2⟩ := Oks.cons_inv t1
  obtain ⟨v3, us3, rfl, ⟨x3, rfl, w3⟩, t3⟩ := Oks.cons_inv t2
  obtain ⟨jo, us4, hj, rfl, t4⟩ := oks_bools (n := 16) t3
  obtain ⟨un, us5, hu, rfl, t5⟩ := oks_bools (n := 16) t4
  obtain ⟨v6, us6, rfl, ⟨ha, rfl⟩, t6⟩ := Oks.cons_inv t5
  obtain ⟨sg, us7, hs, hw, rfl, t7⟩ := oks_words (n := 32) t6
  obtain ⟨v8, us8, rfl, ⟨bl, rfl, w8⟩, t8⟩ := Oks.cons_inv t7
  obtain ⟨v9, us9, rfl, ⟨fl, rfl⟩, t9⟩ := Oks.cons_inv t8
  obtain rfl := t9.nil_inv
  exact ⟨⟨x0, x1, x2, x3, jo, un, ha, sg, bl, fl⟩, ⟨hj, hu, hs, (u8_wf w0).1, (u8_wf w0).2, (u8_wf w1).1, (u8_wf w1).2, (u8_wf w2).1, (u8_wf w2).2, (u64_wf w3).1, (u64_wf w3).2, hw, (i64_wf w8).1, (i64_wf w8).2⟩, rfl⟩
/-- An argument that is a command. -/
theorem cm_arg {vs : List Value} (h : Oks CmdK vs) : ∃ c : Cm, c.ok ∧ vs = c.L := by
  obtain ⟨l, e, hl, ho⟩ := cmd_list (n := 1) (xs := vs) (by rw [List.replicate_succ, List.flatten_cons]; simpa using h)
  match l, hl with
  | [c], _ => exact ⟨c, ho c (by simp), by rw [e]; simp [Cs]⟩
/-- The cells of struct k. -/
theorem struct_at {f : Cm → List Value} (hf : ∀ c, (f c).length = 9) {w : World} {B n : Nat} {A : Option Addr} {l : List Cm} (h : Sl w B 9 A n (Cs f l)) {k : Nat} (hk : k < n) :
    ∃ b off c, A = some ⟨b, off, none⟩ ∧ b < B ∧ l[k]? = some c ∧ ∀ i u, i < 9 → (f c)[i]? = some u → w.cell? ⟨b, off + k * 9 + i, none⟩ = some u := by
  have hl : (Cs f l).length = n * 9 := h.1
  rw [Cs_len f hf] at hl
  have hk' : k < l.length := by omega
  obtain ⟨b, off, e, hb, hc⟩ := h.at_ (by rw [Cs_len f hf]; omega)
  refine ⟨b, off, l[k], e, hb, List.getElem?_eq_getElem hk', fun i u hi hu => ?_⟩
  rw [show off + k * 9 + i = off + (k * 9 + i) by omega]
  exact hc _ u ((Cs_at hf (List.getElem?_eq_getElem hk') i hi).trans hu)
end Go.Proofs.YthjkcboepmgbnaaDoor
