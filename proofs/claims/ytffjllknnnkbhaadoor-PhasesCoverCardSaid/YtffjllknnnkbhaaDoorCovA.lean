/-
  Plain laws for ragpickerlaw19.PhasesCover: the words of one switch; the slice of words that are in; one word appended to it. No condition.
-/
import Derived.Test.YtffjllknnnkbhaaDoorLives
import Derived.OwnWalk
import Derived.Laws.AppendOwn
import Derived.Laws.OwnMore
set_option linter.unusedSimpArgs false
namespace Go.Proofs.YtffjllknnnkbhaaDoor
open Go Go.RowKit
theorem Oks_rep {k : Fk} : ∀ {n : Nat} {xs : List Value}, Oks (List.replicate n [k]).flatten xs → ∀ i, i < n → ∃ v, xs[i]? = some v ∧ k.ok v
  | 0, _, _, i, hi => by omega
  | n + 1, xs, h, i, hi => by
    rw [List.replicate_succ, List.flatten_cons] at h
    obtain ⟨v, us, rfl, hv, hu⟩ := Oks.cons_inv (k := k) (ks := (List.replicate n [k]).flatten) h
    cases i with
    | zero => exact ⟨v, rfl, hv⟩
    | succ i => exact Oks_rep hu i (by omega)
theorem u8_num {n : Int} (h : (Lit.int .u8 n).wf = true) : ∃ m : Nat, n = (m : Int) ∧ m < 256 := by
  simp only [Lit.wf, Bool.and_eq_true, IntKind.min, IntKind.max] at h
  have h1 : (0 : Int) ≤ n := by simpa [IntKind.signed] using h.1
  have h2 : n ≤ 255 := by simpa [IntKind.signed, IntKind.bits] using h.2
  exact ⟨n.toNat, by omega, by omega⟩
/-- What a round reads of a slice of bytes. -/
theorem u8_at {w w' : World} {A : Option Addr} {n k : Nat} {xs : List Value} (hS : Sl w w.heap.size 1 A n xs) (hO : Oks (List.replicate n [.i .u8]).flatten xs) (hb : Below w.heap.size w w') (hk : k < n) :
    ∃ b off m, A = some ⟨b, off, none⟩ ∧ m < 256 ∧ w'.cell? ⟨b, off + k, none⟩ = some (.int .u8 ((m : Nat) : Int)) := by
  obtain ⟨v, hv, z, rfl, wz⟩ := Oks_rep hO k hk
  obtain ⟨m, rfl, hm⟩ := u8_num wz
  have hp : 0 < xs.length := by have := (List.getElem?_eq_some_iff.1 hv).1; omega
  obtain ⟨b, off, rfl, hlt, hc⟩ := hS.at_ hp
  exact ⟨b, off, m, rfl, hm, (hb.cell (p := ⟨b, off + k, none⟩) hlt).trans (hc k _ hv)⟩
theorem info27 : (Tryd.prog.info? 27).map (fun i => (i.zero, i.size, i.bytes)) = some (some (.agg #[.int .u8 0, .int .u8 0, .int .u8 0, .int .u64 0]), 4, 16) := by kernel_rfl
/- ==== one word appended ==== -/
theorem grown_alloc {W w1 : World} {o : Obj} {row : Option Nat} (hg : (W.alloc o).grownBy w1 row) : W.grownBy w1 row :=
  ⟨hg.os, hg.tape, hg.output, Nat.le_trans (by simp) hg.size, fun k hk hne => (hg.block k (by simp; omega) hne).trans (Below.heap_alloc W o k hk)⟩
section
variable {P : Program} {W : World}
theorem wpList_append_word {ops : Array Oper} {rest : List Oper} {o : Oper} {a : Act} {Q : Exit → Act → World → Prop} (hgd : o.guard = none) (s x : Operand) (t : TypeId)
    (ho : o.op = .call { callee := .builtin .append, args := #[s, x], argTypes := #[t, t] })
    (base : Nat) (e : TypeId) (i : TypeInfo) (z : Value) (bytes : Nat) (ht : P.underlying t = some (.slice e)) (hi : P.info? e = some i) (hz : i.zero = some z)
    (hsize : i.size = 4) (hby : i.bytes = bytes) (hzs : z.cells.size = 4)
    (v : Value) (n : Nat) (xs : List Value) (hs : a.eval s = v) (hown : W.ownsRow base e 4 v n xs)
    (c0 c1 c2 c3 : Value) (hx : a.eval x = .slice (some ⟨W.heap.size, 0, none⟩) 1 1) (h1 : ∀ u ∈ [c0, c1, c2, c3], u.oneCell' = true)
    (h63 : n + 1 ≤ maxLen) (hbytes : (n + 1) * bytes ≤ 140737488355328) (hbase : base ≤ W.heap.size)
    (h : ∀ v' w', w'.ownsRow base e 4 v' (n + 1) (xs ++ [c0, c1, c2, c3]) → W.grownBy w' v.ownBlock → wpList P ops Q rest (a.put o.dst v') w') : wpList P ops Q (o :: rest) a (W.alloc (.cells #[c0, c1, c2, c3] e)) := by
  have hb0 : Below W.heap.size W (W.alloc (.cells #[c0, c1, c2, c3] e)) := (Below.refl _ _).alloc (Nat.le_refl _) _
  have hk : Bk (W.alloc (.cells [c0, c1, c2, c3].toArray e)) W.heap.size e [c0, c1, c2, c3] := Bk.made _ _ _
  refine wpList_append_sl hgd s x t ho base e i z 4 bytes ht hi hz hsize hby hzs (by omega) v n xs hs (own_below hown hb0) (W.heap.size + 1) (some ⟨W.heap.size, 0, none⟩) 1 1 [c0, c1, c2, c3] hx
    ⟨rfl, fun _ => ⟨_, _, rfl, by omega, fun j u hu => by rw [Nat.zero_add]; exact (hk.cell j).trans hu⟩⟩ h1 h63 hbytes (by simp; omega) ?_
  intro v' w' h2 h3
  exact h v' w' h2 (grown_alloc h3)
end
/-- What a turn of the own row leaves of another block. -/
theorem Bk.grown {w w' : World} {g : Nat} {t : TypeId} {cs : List Value} {row : Option Nat} (h : Bk w g t cs) (hg : w.grownBy w' row) (hne : some g ≠ row) : Bk w' g t cs := (hg.block g h.size hne).trans h
theorem own_set {w : World} {base : Nat} {e : TypeId} {size n : Nat} {v : Value} {xs : List Value} (h : w.ownsRow base e size v n xs) {p : Addr} (hp : some p.block ≠ v.ownBlock) (u : Value) : (w.setCell p u).ownsRow base e size v n xs := by
  refine ⟨h.1, ?_⟩
  rcases h.2 with h0 | ⟨g, cap, cur, rfl, hg, hh, h1, h2, h3, h4⟩
  · exact .inl h0
  · exact .inr ⟨g, cap, cur, rfl, hg, (Below.heap_setCell w p u g (fun e => hp (by rw [← e]; rfl))).trans hh, h1, h2, h3, h4⟩
/-- A block of one word is not the row of two words or more. -/
theorem own_apart {w : World} {base n : Nat} {v : Value} {xs : List Value} (h : w.ownsRow base 27 4 v n xs) {g : Nat} {a b c d : Value} (hb : Bk w g 27 [a, b, c, d]) (hn : 2 ≤ n) : some g ≠ v.ownBlock := by
  intro e
  rcases h.2 with ⟨rfl, rfl⟩ | ⟨k, cap, cur, rfl, _, hh, h1, _, h3, _⟩
  · omega
  · obtain rfl : g = k := Option.some.inj e
    have hb' : w.heap[g]? = some (.cells [a, b, c, d].toArray 27 (0, 0)) := hb
    rw [hb'] at hh
    cases hh
    have : 4 = cap * 4 := by simpa using h3
    omega
/-- Each of n words has a mode that is P. -/
def Md (xs : List Value) (n : Nat) (P : Nat → Prop) : Prop :=
  ∀ j, j < n → ∃ p o t m : Nat, xs[j * 4]? = some (.int .u8 (p : Int)) ∧ xs[j * 4 + 1]? = some (.int .u8 (o : Int)) ∧ xs[j * 4 + 2]? = some (.int .u8 (t : Int)) ∧ xs[j * 4 + 3]? = some (.int .u64 (m : Int)) ∧ p < 4 ∧ o < 256 ∧ t < 256 ∧ P (modeN p o t)
theorem Md.one {p o t m : Nat} (hp : p < 4) (ho : o < 256) (ht : t < 256) {P : Nat → Prop} (h : P (modeN p o t)) : Md [.int .u8 (p : Int), .int .u8 (o : Int), .int .u8 (t : Int), .int .u64 (m : Int)] 1 P := by
  intro j hj
  obtain rfl : j = 0 := by omega
  exact ⟨p, o, t, m, rfl, rfl, rfl, rfl, hp, ho, ht, h⟩
theorem Md.imp {xs : List Value} {n : Nat} {P Q : Nat → Prop} (h : Md xs n P) (hi : ∀ x, P x → Q x) : Md xs n Q := by
  intro j hj
  obtain ⟨p, o, t, m, h0, h1, h2, h3, hp, ho, ht, hP⟩ := h j hj
  exact ⟨p, o, t, m, h0, h1, h2, h3, hp, ho, ht, hi _ hP⟩
theorem Md.snoc {xs : List Value} {n : Nat} {P : Nat → Prop} (h : Md xs n P) (hl : xs.length = n * 4) {p o t m : Nat} (hp : p < 4) (ho : o < 256) (ht : t < 256) (hP : P (modeN p o t)) :
    Md (xs ++ [.int .u8 (p : Int), .int .u8 (o : Int), .int .u8 (t : Int), .int .u64 (m : Int)]) (n + 1) P := by
  intro j hj
  by_cases hjn : j < n
  · obtain ⟨p', o', t', m', h0, h1, h2, h3, r⟩ := h j hjn
    refine ⟨p', o', t', m', ?_, ?_, ?_, ?_, r⟩
    all_goals rw [List.getElem?_append_left (by omega)]; assumption
  · obtain rfl : j = n := by omega
    refine ⟨p, o, t, m, ?_, ?_, ?_, ?_, hp, ho, ht, hP⟩
    all_goals rw [List.getElem?_append_right (by omega)]
    · rw [show j * 4 - xs.length = 0 by omega]; rfl
    · rw [show j * 4 + 1 - xs.length = 1 by omega]; rfl
    · rw [show j * 4 + 2 - xs.length = 2 by omega]; rfl
    · rw [show j * 4 + 3 - xs.length = 3 by omega]; rfl
/-- The cells of word j. -/
theorem Md.cells {w : World} {base n : Nat} {v : Value} {xs : List Value} {P : Nat → Prop} (h : Md xs n P) (hown : w.ownsRow base 27 4 v n xs) {j : Nat} (hj : j < n) :
    ∃ (g cap p o t m : Nat), v = .slice (some ⟨g, 0, none⟩) n cap ∧ g < w.heap.size ∧ n ≤ cap ∧ cap ≤ maxLen ∧ p < 4 ∧ o < 256 ∧ t < 256 ∧ P (modeN p o t) ∧
      w.cell? ⟨g, j * 4, none⟩ = some (.int .u8 (p : Int)) ∧ w.cell? ⟨g, j * 4 + 1, none⟩ = some (.int .u8 (o : Int)) ∧ w.cell? ⟨g, j * 4 + 2, none⟩ = some (.int .u8 (t : Int)) ∧ w.cell? ⟨g, j * 4 + 3, none⟩ = some (.int .u64 (m : Int)) := by
  obtain ⟨p, o, t, m, h0, h1, h2, h3, hp, ho, ht, hP⟩ := h j hj
  rcases hown.2 with ⟨rfl, rfl⟩ | ⟨g, cap, cur, rfl, hb, hh, k1, k2, k3, k4⟩
  · omega
  · refine ⟨g, cap, p, o, t, m, rfl, (hown.lt g rfl).2, k1, k2, hp, ho, ht, hP, ?_, ?_, ?_, ?_⟩
    · exact (hown.cellAt _ (by omega)).trans h0
    · exact (hown.cellAt _ (by omega)).trans h1
    · exact (hown.cellAt _ (by omega)).trans h2
    · exact (hown.cellAt _ (by omega)).trans h3
theorem singB_sch' (n : Nat) : singB (schN n) = true := by
  rcases schN_cases n with h | h | h <;> rw [h] <;> decide
theorem schN_lt' (n : Nat) : schN n < 256 := by rcases schN_cases n with h | h | h <;> omega
theorem scheme_q' (n q : Nat) (hq : schN n = q) (ni : Int) (en : ni = n) (w : World) (hn : n < 256) : Calls Tryd.prog 5 #[.int .u8 ni] w fun e w' => e = .returned (.int .u8 ((q : Nat) : Int)) ∧ w' = w := by
  rw [← hq]; exact scheme_any n ni en w hn
/- ==== the words of one switch from o to t: k changes behind the beginning ==== -/
def qP (k : Nat) : Nat := if k < 3 then k + 1 else 0
def qO (o t k : Nat) : Nat := if k < 3 then o else if k = 3 then t else 0
def qN (t k : Nat) : Nat := if k < 3 then t else 0
def qM (m k : Nat) : Nat := if k < 4 then (m + 1 + k) % 281474976710656 else 0
/-- The mode of those that are in at the head of round k. -/
def mdC (o t k : Nat) : Nat := if k = 0 then o else if k ≤ 2 then o ||| t else t
def byC (o t k : Nat) : Nat := if qP k = 3 then qN t k else qO o t k
theorem qM_lt (m k : Nat) : qM m k < 281474976710656 := by unfold qM; split <;> omega
theorem q_facts {o t k : Nat} (ho : singB o = true) (ht : singB t = true) (hne : t ≠ o) (hk : k < 4) :
    qP k < 4 ∧ qO o t k < 256 ∧ qN t k < 256 ∧ mayP (qP k) (qO o t k) (qN t k) = true ∧ byC o t k < 256 ∧ mdC o t k &&& byC o t k ≠ 0 ∧ modeN (qP k) (qO o t k) (qN t k) &&& byC o t k ≠ 0 ∧
      modeN (qP k) (qO o t k) (qN t k) = mdC o t (k + 1) ∧ (wtT (qP k) = false → mdC o t k = mdC o t (k + 1)) := by
  have h1 : o = 1 ∨ o = 2 ∨ o = 4 := of_decide_eq_true ho
  have h2 : t = 1 ∨ t = 2 ∨ t = 4 := of_decide_eq_true ht
  have h3 : k = 0 ∨ k = 1 ∨ k = 2 ∨ k = 3 := by omega
  rcases h1 with rfl | rfl | rfl <;> rcases h2 with rfl | rfl | rfl <;> first | exact absurd rfl hne | skip
  all_goals rcases h3 with rfl | rfl | rfl | rfl <;> decide
/-- What Next makes of the word k. -/
def nxO (p o n : Nat) : Nat := if p = 0 then 0 else if p = 3 then n else o
def nxN (p n : Nat) : Nat := if p = 0 then 0 else if p = 3 then 0 else n
def nxM (p m : Nat) : Nat := if p = 0 then 0 else (m + 1) % 281474976710656
theorem q_next (o t m k : Nat) (hk : k < 4) : nxT (qP k) = qP (k + 1) ∧ nxO (qP k) (qO o t k) (qN t k) = qO o t (k + 1) ∧ nxN (qP k) (qN t k) = qN t (k + 1) ∧ nxM (qP k) (qM m k) = qM m (k + 1) := by
  have h3 : k = 0 ∨ k = 1 ∨ k = 2 ∨ k = 3 := by omega
  rcases h3 with rfl | rfl | rfl | rfl
  all_goals refine ⟨rfl, rfl, rfl, ?_⟩
  · show (((m + 1 + 0) % 281474976710656) + 1) % 281474976710656 = (m + 1 + 1) % 281474976710656; omega
  · show (((m + 1 + 1) % 281474976710656) + 1) % 281474976710656 = (m + 1 + 2) % 281474976710656; omega
  · show (((m + 1 + 2) % 281474976710656) + 1) % 281474976710656 = (m + 1 + 3) % 281474976710656; omega
  · rfl
theorem next_uni (p o n m : Nat) (pi oi ni mi : Int) (ep : pi = p) (eo : oi = o) (en : ni = n) (em : mi = m) (w : World) (ht : Tabs w) (hp : p < 4) (ho : o < 256) (hn : n < 256) (hmm : m < 281474976710656) (hm : mayP p o n = true) :
    Calls Tryd.prog 10 #[.agg #[.int .u8 pi, .int .u8 oi, .int .u8 ni, .int .u64 mi]] w fun e w' =>
      e = .returned (.tuple #[.agg #[.int .u8 ((nxT p : Nat) : Int), .int .u8 ((nxO p o n : Nat) : Int), .int .u8 ((nxN p n : Nat) : Int), .int .u64 ((nxM p m : Nat) : Int)], .bool (decide (p ≠ 0))]) ∧ Below w.heap.size w w' := by
  by_cases h0 : p = 0
  · refine (next_stop p o n m pi oi ni mi ep eo en em w hp ho hn h0 hm).mono ?_
    rintro e w' ⟨rfl, hb⟩
    subst h0
    exact ⟨rfl, hb⟩
  · refine (next_any p o n m pi oi ni mi ep eo en em w ht hp ho hn hmm h0 hm).mono ?_
    rintro e w' ⟨rfl, hb⟩
    refine ⟨?_, hb⟩
    unfold pwA nxO nxN nxM
    rw [if_neg h0, if_neg h0, if_neg h0, decide_eq_true h0]
theorem begin_uni (o m t bp bo bn bm : Nat) (be : Int) (hv : (t = o ∧ bp = 0 ∧ bo = 0 ∧ bn = 0 ∧ bm = 0 ∧ be = 8) ∨ (t ≠ o ∧ bp = 1 ∧ bo = o ∧ bn = t ∧ bm = (m + 1) % 281474976710656 ∧ be = 0)) (pi oi ni mi ti : Int) (ep : pi = (0 : Nat)) (eo : oi = o) (en : ni = (0 : Nat)) (em : mi = m) (et : ti = t) (w : World) (ho : o < 256) (htt : t < 256) (hmm : m < 281474976710656) (hs0 : singB o = true) (hs : singB t = true) :
    Calls Tryd.prog 6 #[.agg #[.int .u8 pi, .int .u8 oi, .int .u8 ni, .int .u64 mi], .int .u8 ti] w fun e w' => e = .returned (.tuple #[.agg #[.int .u8 (bp : Int), .int .u8 (bo : Int), .int .u8 (bn : Int), .int .u64 (bm : Int)], .int .i64 be]) ∧ Below w.heap.size w w' := by
  have hm : mayP 0 o 0 = true := by simp [mayP, hs0]
  rcases hv with ⟨h1, rfl, rfl, rfl, rfl, rfl⟩ | ⟨h1, rfl, rfl, rfl, rfl, rfl⟩
  · refine (begin_same 0 o 0 m t pi oi ni mi ti ep eo en em et w (by omega) ho (by omega) htt hmm hm hs rfl h1).mono ?_
    rintro e w' ⟨rfl, hb⟩
    exact ⟨rfl, hb⟩
  · refine (begin_new 0 bo 0 m bn pi oi ni mi ti ep eo en em et w (by omega) ho (by omega) htt hmm hm hs rfl h1).mono ?_
    rintro e w' ⟨rfl, hb⟩
    refine ⟨?_, hb⟩
    rw [show (((m + 1) % 281474976710656 : Nat) : Int) = ((m : Int) + 1) % 281474976710656 by omega]
    rfl
end Go.Proofs.YtffjllknnnkbhaaDoor
