/-
  Base of the proofs of this seat: what is of no program: a value of flat type (integers, bools, strings, structs and arrays of these) as a list of cells; what a row asks behind a call that turned nothing below the old heap; a slice that reads as a list; words as numbers. No condition.
-/
import GoSem.ClaimJoined
import GoSem.ClaimSeven
import Derived.WalkKit
import Derived.ProofKit
import Derived.OpenShut
import Derived.WalkSpells
import Derived.Deep.Slices
import Derived.Deep.Draws
import Derived.Laws.BitsAllLaws
import Derived.Lib.LaidTab
import Derived.Lib.Hide
namespace Go.Proofs.YthjkcboepmgbnaaDoor
open Go Go.RowKit Go.ChangeShapes Go.WideShapes Go.ChangeAt Go.Deep

/- ==== FLAT TYPES ==== -/
inductive Fk where
  | i (k : IntKind)
  | b
  | s
  deriving DecidableEq

def Fk.ok : Fk → Value → Prop
  | .i k, v => ∃ n : Int, v = .int k n ∧ (Lit.int k n).wf = true
  | .b, v => ∃ c : Bool, v = .bool c
  | .s, v => ∃ s : ByteArray, v = .string s ∧ s.size ≤ maxLen

def flatFields (P : Program) (kinds : TypeId → Option (List Fk)) : Nat → List Field → Option (List Fk)
  | _, [] => some []
  | at', f :: fs =>
    match kinds f.type with
    | none => none
    | some ks => if f.offset = at' ∧ P.cellsOf f.type = ks.length then (flatFields P kinds (at' + ks.length) fs).map (ks ++ ·) else none

def flatKinds (P : Program) : Nat → TypeId → Option (List Fk)
  | 0, _ => none
  | n + 1, t =>
    match P.underlying t with
    | some .bool => some [.b]
    | some (.int k) => some [.i k]
    | some .string => some [.s]
    | some (.struct fs) => match flatFields P (flatKinds P n) 0 fs.toList with
      | some ks => if P.cellsOf t = ks.length then some ks else none
      | none => none
    | some (.array m e) => match flatKinds P n e with
      | some ks => if P.cellsOf e = ks.length ∧ P.cellsOf t = m * ks.length then some (List.replicate m ks).flatten else none
      | none => none
    | _ => none

def vals {H : Type} : Nat → DataW H → List Value
  | 0, _ => []
  | n + 1, d => match d with
    | .lit (.int k z) => [.int k z]
    | .lit (.bool c) => [.bool c]
    | .lit (.string l) => [.string ⟨l.toArray⟩]
    | .agg ps => ps.flatMap (vals n)
    | _ => []

inductive Oks : List Fk → List Value → Prop
  | nil : Oks [] []
  | cons {k : Fk} {v : Value} {ks : List Fk} {vs : List Value} : k.ok v → Oks ks vs → Oks (k :: ks) (v :: vs)

theorem Oks.append {as : List Fk} : ∀ {vs : List Value} {bs : List Fk} {us : List Value}, Oks as vs → Oks bs us → Oks (as ++ bs) (vs ++ us) := by
  induction as with
  | nil => intro vs bs us h k; cases h; exact k
  | cons a as ih => intro vs bs us h k; cases h with | cons h1 h2 => exact .cons h1 (ih h2 k)

theorem Oks.length {as : List Fk} : ∀ {vs : List Value}, Oks as vs → vs.length = as.length := by
  induction as with
  | nil => intro vs h; cases h; rfl
  | cons a as ih => intro vs h; cases h with | cons h1 h2 => simp [ih h2]

theorem take_drop_split (l : List Value) (a n : Nat) : l.drop a = (l.drop a).take n ++ l.drop (a + n) := by
  rw [← List.drop_drop]; exact (List.take_append_drop n (l.drop a)).symm

section
variable {H : Type} {enc : TypeId × Value → H} {P : Program} {w : World} {base : Nat} {sp : Nat → Bool} {held : Bool}

theorem flat_fields {fuel n : Nat} (ih : ∀ {t : TypeId} {ks : List Fk} {cs : List Value} {x : DataW H × List MemPlace}, flatKinds P n t = some ks → DataW.trod enc P w base sp held fuel t cs = some x → Oks ks cs ∧ cs = vals fuel x.1)
    (cs : List Value) : ∀ (fs : List Field) (at' : Nat) (ks : List Fk) (xs : List (DataW H × List MemPlace)), flatFields P (flatKinds P n) at' fs = some ks →
    at' + ks.length = cs.length →
    (∀ (i : Nat) (f : Field), fs[i]? = some f → DataW.trod enc P w base sp held fuel f.type ((cs.drop f.offset).take (P.cellsOf f.type)) = xs[i]?) → xs.length = fs.length →
    Oks ks (cs.drop at') ∧ cs.drop at' = (xs.map (·.1)).flatMap (vals fuel)
  | [], at', ks, xs, h, hl, hx, hxl => by
    simp only [flatFields, Option.some.injEq] at h
    subst h
    have : xs = [] := List.eq_nil_of_length_eq_zero (by simpa using hxl)
    subst this
    have hd : cs.drop at' = [] := List.drop_eq_nil_of_le (by simp at hl; omega)
    rw [hd]
    exact ⟨.nil, rfl⟩
  | f :: fs, at', ks, xs, h, hl, hx, hxl => by
    simp only [flatFields] at h
    split at h
    · cases h
    · rename_i k1 hk1
      split at h
      · rename_i hcond
        obtain ⟨hoff, hcell⟩ := hcond
        obtain ⟨k2, hk2, rfl⟩ := Option.map_eq_some_iff.1 h
        match xs, hxl with
        | x :: xs, hxl =>
          have h0 := hx 0 f rfl
          rw [hoff, hcell] at h0
          simp only [List.getElem?_cons_zero] at h0
          obtain ⟨o1, e1⟩ := ih hk1 h0
          have hl2 : at' + k1.length + k2.length = cs.length := by simp at hl; omega
          obtain ⟨o2, e2⟩ := flat_fields ih cs fs (at' + k1.length) k2 xs hk2 hl2 (fun i g hg => by have := hx (i + 1) g (by simpa using hg); simpa using this) (by simpa using hxl)
          rw [take_drop_split cs at' k1.length]
          refine ⟨o1.append o2, ?_⟩
          rw [List.map_cons, List.flatMap_cons, ← e1, ← e2]
      · cases h

theorem flat_array {fuel n : Nat} (ih : ∀ {t : TypeId} {ks : List Fk} {cs : List Value} {x : DataW H × List MemPlace}, flatKinds P n t = some ks → DataW.trod enc P w base sp held fuel t cs = some x → Oks ks cs ∧ cs = vals fuel x.1)
    (cs : List Value) (e : TypeId) (k1 : List Fk) (he : flatKinds P n e = some k1) (m : Nat) (xs : List (DataW H × List MemPlace)) (hlen : cs.length = m * k1.length) (hxl : xs.length = m)
    (hx : ∀ i, i < m → DataW.trod enc P w base sp held fuel e ((cs.drop (i * k1.length)).take k1.length) = xs[i]?) :
    ∀ j, j ≤ m → Oks (List.replicate j k1).flatten (cs.drop ((m - j) * k1.length)) ∧ cs.drop ((m - j) * k1.length) = ((xs.drop (m - j)).map (·.1)).flatMap (vals fuel)
  | 0, _ => by
    have hd : cs.drop ((m - 0) * k1.length) = [] := List.drop_eq_nil_of_le (by simp [hlen])
    rw [hd, List.drop_eq_nil_of_le (by omega)]
    exact ⟨.nil, rfl⟩
  | j + 1, hj => by
    obtain ⟨o2, e2⟩ := flat_array ih cs e k1 he m xs hlen hxl hx j (by omega)
    have h0 := hx (m - (j + 1)) (by omega)
    have hlt : m - (j + 1) < xs.length := by omega
    rw [List.getElem?_eq_getElem hlt] at h0
    obtain ⟨o1, e1⟩ := ih he h0
    have hs : (m - (j + 1)) * k1.length + k1.length = (m - j) * k1.length := by
      rw [← Nat.succ_mul]; congr 1; omega
    rw [take_drop_split cs ((m - (j + 1)) * k1.length) k1.length, hs]
    refine ⟨by rw [List.replicate_succ, List.flatten_cons]; exact o1.append o2, ?_⟩
    rw [List.drop_eq_getElem_cons hlt, List.map_cons, List.flatMap_cons, ← e1]
    have : m - (j + 1) + 1 = m - j := by omega
    rw [this, ← e2]

/-- A VALUE OF FLAT TYPE: its cells are of the kinds, and are the datum's own. -/
theorem flat_open : ∀ (fuel n : Nat) {t : TypeId} {ks : List Fk} {cs : List Value} {x : DataW H × List MemPlace}, flatKinds P n t = some ks → DataW.trod enc P w base sp held fuel t cs = some x → Oks ks cs ∧ cs = vals fuel x.1
  | 0, _, _, _, _, _, _, h => by simp [DataW.trod] at h
  | _ + 1, 0, _, _, _, _, h, _ => by simp [flatKinds] at h
  | fuel + 1, n + 1, t, ks, cs, x, h, ht => by
    simp only [flatKinds] at h
    split at h
    · rename_i hu
      obtain ⟨c, rfl, rfl⟩ := DataW.trod_bool hu ht
      cases h
      exact ⟨.cons ⟨c, rfl⟩ .nil, rfl⟩
    · rename_i k hu
      obtain ⟨z, rfl, rfl, wz⟩ := DataW.trod_int hu ht
      cases h
      exact ⟨.cons ⟨z, rfl, wz⟩ .nil, rfl⟩
    · rename_i hu
      obtain ⟨s, rfl, rfl, hs⟩ := DataW.trod_string hu ht
      cases h
      exact ⟨.cons ⟨s, rfl, hs⟩ .nil, by simp [vals]⟩
    · rename_i fs hu
      split at h
      · rename_i ks' hk
        split at h
        · rename_i hc
          cases h
          obtain ⟨xs, m, hm, rfl, hlen, hxl, hf⟩ := DataW.trod_struct hu ht
          obtain rfl : fuel = m := by omega
          have := flat_fields (fun a b => flat_open fuel n a b) cs fs.toList 0 _ xs hk (by rw [hlen, hc]; omega) (fun i f hi => hf i f (by simpa using hi)) (by simpa using hxl)
          simpa [vals] using this
        · cases h
      · cases h
    · rename_i m e hu
      split at h
      · rename_i k1 hk
        split at h
        · rename_i hc
          obtain ⟨hc1, hc2⟩ := hc
          cases h
          obtain ⟨xs, m', hm, rfl, hlen, hxl, hf⟩ := DataW.trod_array hu ht
          obtain rfl : fuel = m' := by omega
          have := flat_array (fun a b => flat_open fuel n a b) cs e k1 hk m xs (by rw [hlen, hc2]) hxl (fun i hi => by have := hf i hi; rwa [hc1] at this) m (Nat.le_refl _)
          simpa [vals] using this
        · cases h
      · cases h
    · cases h

theorem Oks.cons_inv {k : Fk} {ks : List Fk} {vs : List Value} (h : Oks (k :: ks) vs) : ∃ v us, vs = v :: us ∧ k.ok v ∧ Oks ks us := by
  cases h with | cons h1 h2 => exact ⟨_, _, rfl, h1, h2⟩
theorem Oks.nil_inv {vs : List Value} (h : Oks [] vs) : vs = [] := by cases h; rfl

/-- An argument of a struct or array type that is flat: the cells written as a list. -/
theorem open_flat {n : Nat} {t : TypeId} {ks : List Fk} {v : Value} {d : DataW H} {p : List MemPlace} {W : World} {r : Reach} {b0 : Nat} (hk : flatKinds P n t = some ks)
    (hu : (match P.underlying t with | some (.struct _) | some (.array _ _) => true | _ => false) = true)
    (hv : Value.okWide P W r b0 t v) (h : DataW.Trod enc P w base sp held t v d p) : ∃ cs : List Value, v = .agg cs.toArray ∧ Oks ks cs := by
  obtain ⟨fuel, hf⟩ := h
  have : ∃ cs : Array Value, v = .agg cs := by
    unfold Value.okWide at hv
    split at hu
    · simp_all only []; obtain ⟨cs, h1, _⟩ := hv; exact ⟨cs, h1⟩
    · simp_all only []; obtain ⟨cs, h1, _⟩ := hv; exact ⟨cs, h1⟩
    · cases hu
  obtain ⟨cs, rfl⟩ := this
  obtain ⟨o, _⟩ := flat_open fuel n hk hf
  exact ⟨cs.toList, by simp, by simpa [Value.cells] using o⟩
end

/- ==== A TABLE THAT A ROW LISTS ==== -/
theorem table_cells {P : Program} {W : World} {name : String} {d : DataW Unit} {laid : List (String × DataW Unit)} {g n : Nat} {t : TypeId} {ks : List Fk}
    (hmem : (name, d) ∈ laid) (hg : P.globalNamed name = some g) (hty : (P.globals[g]?).map (·.type) = some t) (hk : flatKinds P n t = some ks) (h : laidMet P laid W) :
    ∃ m, Oks ks (vals m d) ∧ ∀ i v, (vals m d)[i]? = some v → W.cell? ⟨g, i, none⟩ = some v := by
  obtain ⟨ps, h, hno⟩ := h
  clear hno
  induction laid generalizing ps with
  | nil => cases hmem
  | cons x r ih =>
    obtain ⟨nm, d'⟩ := x
    obtain ⟨g', t', cs, fuel, p, q, hg', ht', hvar, hd, hr, _⟩ := h
    rcases List.mem_cons.1 hmem with e | e
    · cases e
      obtain rfl := Option.some.inj (hg.symm.trans hg')
      obtain rfl := Option.some.inj (hty.symm.trans ht')
      obtain ⟨o, e⟩ := flat_open fuel n hk hd
      refine ⟨fuel, by rw [← e]; exact o, fun i v hi => ?_⟩
      have := World.var?_cell hg hvar i
      rw [this, ← Array.getElem?_toList, e]
      exact hi
    · exact ih e _ hr

/- ==== BEHIND THE CALL ==== -/
theorem trodAll_stays {H : Type} {enc : TypeId × Value → H} {P : Program} (hl : laidOutB P = true) {W W' : World} (hb : Below W.heap.size W W') :
    ∀ {ts : List TypeId} {vs : List Value} {ds : List (DataW H)} {ps : List MemPlace} {sp : Nat → Bool}, (ts.all fun t => P.readableRec t && decide (t < P.types.size)) = true →
      (∀ p ∈ ps, p.block < W.heap.size) → (∀ p ∈ ps, sp p.block = true) →
      DataW.TrodAll enc P W 0 (fun _ => true) true ts vs ds ps → DataW.TrodAll enc P W' 0 sp true ts vs ds ps
  | [], [], [], _, _, _, _, _, h => h
  | t :: ts, v :: vs, d :: ds, ps, sp, hr, hlt, hsp, h => by
    obtain ⟨p, q, h1, h2, rfl⟩ := h
    simp only [List.all_cons, Bool.and_eq_true, decide_eq_true_eq] at hr
    refine ⟨p, q, WideElems.Trod_stays hl hr.1.1 hr.1.2 h1 (fun x hx => hb.same (hlt x (List.mem_append_left _ hx))) (fun x hx => hsp x (List.mem_append_left _ hx)), ?_, rfl⟩
    exact trodAll_stays hl hb (by simpa using hr.2) (fun x hx => hlt x (List.mem_append_right _ hx)) (fun x hx => hsp x (List.mem_append_right _ hx)) h2
  | [], _ :: _, _, _, _, _, _, _, h => h.elim
  | [], [], _ :: _, _, _, _, _, _, h => h.elim
  | _ :: _, [], _, _, _, _, _, _, h => h.elim
  | _ :: _, _ :: _, [], _, _, _, _, _, h => h.elim

/-- A LAW's ROW, FROM ITS WALK: it returns true, and nothing that was there has turned. -/
theorem law_post {H : Type} {enc : TypeId × Value → H} {P : Program} {f : Func} {s : ChangeSpec} {W W' : World} {args : Array Value} {ds gs : List (DataW H)} {before : List MemPlace} {tb : TypeId}
    (hW : DataW.Whole enc P f.params.toList s.vars false W args.toList ds gs before) (hvs : s.vars = []) (hfn : s.fn H (ds ++ []) = { results := [.lit (.bool true)], args := ds })
    (hl : laidOutB P = true) (hr : (f.params.toList.all fun t => P.readableRec t && decide (t < P.types.size)) = true) (hres : f.resultTypes = #[tb]) (hbool : P.underlying tb = some .bool)
    (hb : Below W.heap.size W W') : s.post enc P f false true false false W args (.bool true) W' := by
  have hlt := hW.lt
  have hW' := hW
  obtain ⟨p, q, hA, hV, rfl, _, _⟩ := hW
  have hg : gs = [] ∧ q = [] := by rw [hvs] at hV; exact trodVars_none hV
  obtain ⟨rfl, rfl⟩ := hg
  simp only [List.append_nil] at hlt hW'
  have hargs : ∀ sp : Nat → Bool, (∀ x ∈ p, sp x.block = true) → DataW.TrodAll enc P W' 0 sp true f.params.toList args.toList ds p :=
    fun sp hsp => trodAll_stays hl hb hr hlt hsp hA
  have hvars : ∀ sp : Nat → Bool, DataW.TrodVars enc P W' sp s.vars [] [] := fun sp => by rw [hvs]; rfl
  have hret : ∀ (b : Nat) (sp : Nat → Bool) (hd : Bool), DataW.TrodAll enc P W' b sp hd f.resultTypes.toList ((Value.bool true).resultList f.resultTypes.size) [.lit (.bool true)] [] := by
    intro b sp hd
    rw [hres]
    exact trodAll_cons_mk (shut_bool hbool _) trodAll_mk0
  refine ⟨ds, [], p, [], p, [], hW', ?_, ?_, ?_, World.keptBut_mono (fun x hx => ⟨hx, .inr (.inl hx)⟩) (hb.frame (· ∈ p)), fun h => by cases h⟩
  · rw [hfn]; exact hret _ _ _
  · rw [hfn]; exact hargs _ fun x hx => by simpa using hlt x hx
  · rw [hfn]
    have := hvars fun b => decide (b < W.heap.size)
    exact this

/- ==== A SLICE THAT READS AS A LIST ==== -/
/-- '.slice A n c' holds the cells xs (C to an element), below block B. -/
def Sl (w : World) (B C : Nat) (A : Option Addr) (n : Nat) (xs : List Value) : Prop :=
  xs.length = n * C ∧ (0 < xs.length → ∃ b off, A = some ⟨b, off, none⟩ ∧ b < B ∧ ∀ j u, xs[j]? = some u → w.cell? ⟨b, off + j, none⟩ = some u)
theorem Sl.nil_ {w : World} {B C : Nat} {A : Option Addr} : Sl w B C A 0 [] := ⟨by simp, fun h => absurd h (by simp)⟩
theorem Sl.at_ {w : World} {B C n : Nat} {A : Option Addr} {xs : List Value} (h : Sl w B C A n xs) (hp : 0 < xs.length) :
    ∃ b off, A = some ⟨b, off, none⟩ ∧ b < B ∧ ∀ j u, xs[j]? = some u → w.cell? ⟨b, off + j, none⟩ = some u := h.2 hp
theorem Sl.below {w w' : World} {B C n : Nat} {A : Option Addr} {xs : List Value} (h : Sl w B C A n xs) (hb : Below B w w') : Sl w' B C A n xs :=
  ⟨h.1, fun hp => by
    obtain ⟨b, off, e, hlt, hc⟩ := h.2 hp
    exact ⟨b, off, e, hlt, fun j u hu => (hb.cell (p := ⟨b, off + j, none⟩) hlt).trans (hc j u hu)⟩⟩
theorem Sl.mono {w : World} {B B' C n : Nat} {A : Option Addr} {xs : List Value} (h : Sl w B C A n xs) (hB : B ≤ B') : Sl w B' C A n xs :=
  ⟨h.1, fun hp => by
    obtain ⟨b, off, e, hlt, hc⟩ := h.2 hp
    exact ⟨b, off, e, by omega, hc⟩⟩
theorem below_drewN {B : Nat} {a w : World} (h : Below B a w) (n : Nat) : Below B a (w.drewN n) := ⟨h.os, h.tape, h.output, h.size, h.block⟩

/-- An argument that is a slice of a flat element type. -/
theorem open_flat_slice {H : Type} {enc : TypeId × Value → H} {P : Program} {w W : World} {base : Nat} {sp : Nat → Bool} {held : Bool} {r : Reach} {b0 n : Nat} {t e : TypeId} {ks : List Fk} {v : Value} {d : DataW H} {p : List MemPlace}
    (ht : P.underlying t = some (.slice e)) (hk : flatKinds P n e = some ks) (hc : P.cellsOf e = ks.length)
    (hv : Value.okWide P W r b0 t v) (h : DataW.Trod enc P w base sp held t v d p) :
    ∃ A len cap xs, v = .slice A len cap ∧ len ≤ cap ∧ cap ≤ maxLen ∧ Sl w w.heap.size ks.length A len xs ∧ Oks (List.replicate len ks).flatten xs := by
  obtain ⟨A0, len0, cap0, rfl⟩ := okWide_slice ht hv
  obtain ⟨fuel, hf⟩ := h
  rcases open_slice ht hf with ⟨hcs, hx⟩ | ⟨a, len, cap, m, n', D, Pl, hcs, hb, hl, hm, hmm, hx, hi⟩
  · have : A0 = none ∧ len0 = 0 ∧ cap0 = 0 := by simpa [Value.cells] using hcs
    obtain ⟨rfl, rfl, rfl⟩ := this
    exact ⟨none, 0, 0, [], rfl, Nat.le_refl _, Nat.zero_le _, Sl.nil_, .nil⟩
  · have : A0 = some a ∧ len0 = len ∧ cap0 = cap := by simpa [Value.cells] using hcs
    obtain ⟨rfl, rfl, rfl⟩ := this
    have hlm : len0 ≤ m := by rw [hmm]; split <;> omega
    rw [hc] at hi
    have key : ∀ j, j ≤ len0 → ∃ xs : List Value, Oks (List.replicate j ks).flatten xs ∧ xs.length = j * ks.length ∧ ∀ i u, xs[i]? = some u → w.cell? (a.add i) = some u := by
      intro j
      induction j with
      | zero => intro _; exact ⟨[], .nil, by simp, fun i u hu => by simp at hu⟩
      | succ j ih =>
        intro hj
        obtain ⟨xs, o, hlen, hcell⟩ := ih (by omega)
        obtain ⟨cs', hcells, htr⟩ := hi j (by omega)
        obtain ⟨o', _⟩ := flat_open _ n hk htr
        obtain ⟨_, hcl, hat⟩ := World.cells?_some hcells
        refine ⟨xs ++ cs', ?_, by rw [List.length_append, hlen, hcl, Nat.succ_mul], ?_⟩
        · rw [List.replicate_succ', List.flatten_append]
          simpa using o.append o'
        · intro i u hu
          by_cases hlt : i < xs.length
          · rw [List.getElem?_append_left hlt] at hu
            exact hcell i u hu
          · rw [List.getElem?_append_right (by omega)] at hu
            have hi' : i - xs.length < ks.length := by
              have := (List.getElem?_eq_some_iff.1 hu).1
              omega
            have h2 := hat (i - xs.length) hi'
            rw [Go.Deep.add_add, hlen] at h2
            rw [hlen] at hu
            rw [show j * ks.length + (i - j * ks.length) = i by omega] at h2
            rw [h2]
            exact hu
    obtain ⟨xs, o, hlen, hcell⟩ := key len0 (Nat.le_refl _)
    refine ⟨some a, len0, cap0, xs, rfl, hl, hm, ⟨hlen, fun hp => ?_⟩, o⟩
    have h0 : xs[0]? = some (xs[0]'hp) := List.getElem?_eq_getElem hp
    have hc0 := hcell 0 _ h0
    obtain ⟨b, off, spot⟩ := a
    have hspot : spot = none := by simpa [Addr.add] using World.cell?_spot hc0
    subst hspot
    refine ⟨b, off, rfl, ?_, fun j u hu => by rw [← Go.WideShapes.add_plain]; exact hcell j u hu⟩
    exact World.block_lt_of_cell? w _ hc0

theorem val_int {H : Type} {enc : TypeId × Value → H} {P : Program} {w W : World} {base : Nat} {sp : Nat → Bool} {held : Bool} {r : Reach} {b0 : Nat} {t : TypeId} {k : IntKind} {v : Value} {d : DataW H} {p : List MemPlace}
    (ht : P.underlying t = some (.int k)) (hv : Value.okWide P W r b0 t v) (h : DataW.Trod enc P w base sp held t v d p) : ∃ n : Int, v = .int k n ∧ (Lit.int k n).wf = true := by
  obtain ⟨n, rfl⟩ := okWide_int ht hv
  obtain ⟨fuel, hf⟩ := h
  obtain ⟨m, hc, _, wm⟩ := DataW.trod_int ht hf
  have : n = m := by simpa [Value.cells] using hc
  subst this
  exact ⟨n, rfl, wm⟩

/-- Nothing of a row's parameters wants a stand-in. -/
theorem plain_of {P : Program} {f g : FuncId} {fn gn : Func} {name : String} (hg : P.funcNamed name = some g) (hgn : P.funcs[g]? = some gn) (hlook : false = P.looks [])
    (hw : (gn.params.toList.all fun t => P.wantsStandIn t == false) = true) (hf : P.funcNamed name = some f) (hfn : P.funcs[f]? = some fn) :
    false = P.looks [] ∧ ∀ (j : Nat) t, fn.params[j]? = some t → P.wantsStandIn t = false := by
  obtain rfl : g = f := Option.some.inj (hg.symm.trans hf)
  obtain rfl : gn = fn := Option.some.inj (hgn.symm.trans hfn)
  refine ⟨hlook, fun j t ht => ?_⟩
  have hm : t ∈ gn.params.toList := by simpa using Array.mem_of_getElem? ht
  have := List.all_eq_true.1 hw t hm
  simpa using this

/- ==== A BLOCK KNOWN WHOLE ==== -/
/-- Block g is just these cells. -/
def Bk (w : World) (g : Nat) (t : TypeId) (cs : List Value) : Prop := w.heap[g]? = some (.cells cs.toArray t (0, 0))
theorem Bk.size {w : World} {g : Nat} {t : TypeId} {cs : List Value} (h : Bk w g t cs) : g < w.heap.size := (Array.getElem?_eq_some_iff.1 h).1
theorem Bk.cell {w : World} {g : Nat} {t : TypeId} {cs : List Value} (h : Bk w g t cs) (i : Nat) : w.cell? ⟨g, i, none⟩ = cs[i]? := by
  have := cell_of_row w g i cs.toArray t (0, 0) h
  simpa using this
theorem Bk.free {w : World} {g : Nat} {t : TypeId} {cs : List Value} (h : Bk w g t cs) (i : Nat) : w.frozen? ⟨g, i, none⟩ = false := by
  have h' : w.heap[g]? = some (.cells cs.toArray t (0, 0)) := h
  simp [World.frozen?, h']
theorem Bk.made (w : World) (t : TypeId) (cs : List Value) : Bk (w.alloc (.cells cs.toArray t)) w.heap.size t cs := heap_alloc_new w _
theorem Bk.drewN {w : World} {g : Nat} {t : TypeId} {cs : List Value} (h : Bk w g t cs) (n : Nat) : Bk (w.drewN n) g t cs := h
theorem Bk.drew {w : World} {g : Nat} {t : TypeId} {cs : List Value} (h : Bk w g t cs) : Bk w.drew g t cs := h
theorem Bk.alloc {w : World} {g : Nat} {t : TypeId} {cs : List Value} (h : Bk w g t cs) (o : Obj) : Bk (w.alloc o) g t cs := (Below.heap_alloc w o g h.size).trans h
theorem Bk.below {w w' : World} {g : Nat} {t : TypeId} {cs : List Value} {B : Nat} (h : Bk w g t cs) (hb : Below B w w') (hg : g < B) : Bk w' g t cs := (hb.block g hg).trans h
theorem Bk.put {w : World} {g : Nat} {t : TypeId} {cs : List Value} (h : Bk w g t cs) (i : Nat) (u : Value) : Bk (w.setCell ⟨g, i, none⟩ u) g t (cs.set i u) := by
  have h' : w.heap[g]? = some (.cells cs.toArray t (0, 0)) := h
  unfold Bk
  simp [World.setCell, Array.getElem?_modify, h']
theorem Bk.far {w : World} {g : Nat} {t : TypeId} {cs : List Value} (h : Bk w g t cs) {p : Addr} (hp : g ≠ p.block) (u : Value) : Bk (w.setCell p u) g t cs := (Below.heap_setCell w p u g hp).trans h

/- ==== WORDS AS NUMBERS ==== -/
theorem u64_bits {n : Int} (h : (Lit.int .u64 n).wf = true) : ∃ m : Nat, n = (m : Int) ∧ m < 18446744073709551616 := by
  simp only [Lit.wf, Bool.and_eq_true, IntKind.min, IntKind.max] at h
  have h1 : (0 : Int) ≤ n := by simpa [IntKind.signed] using h.1
  have h2 : n ≤ 18446744073709551615 := by simpa [IntKind.signed, IntKind.bits] using h.2
  exact ⟨n.toNat, by omega, by omega⟩
end Go.Proofs.YthjkcboepmgbnaaDoor
