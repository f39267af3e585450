/- Proved: plain laws of problems, chances and best replies, with no program in sight; no condition beyond those that each theorem states. -/
import Derived.Test.YtobfbgmglopdhaaGreatA1
import Derived.IntWalk
import Derived.Test.YtobfbgmglopdhaaGreatG3
set_option linter.unusedVariables false
set_option linter.unusedSimpArgs false
namespace Pl
open Ab

def OK {α : Type} (o : Option α) (P : α → Prop) : Prop := ∃ r, o = some r ∧ P r

section
variable {α β : Type} {P Q : α → Prop}
theorem OK.ret {a : α} (h : P a) : OK (some a) P := ⟨a, rfl, h⟩
theorem OK.mono {o : Option α} (h : OK o P) (hp : ∀ a, P a → Q a) : OK o Q := by obtain ⟨r, e, h⟩ := h; exact ⟨r, e, hp r h⟩
theorem OK.bind {o : Option α} {f : α → Option β} {R : β → Prop} (h : OK o P) (hf : ∀ a, P a → OK (f a) R) : OK (o.bind f) R := by
  obtain ⟨a, e, h⟩ := h
  rw [e]; exact hf a h
theorem OK.req {c : Prop} {i : Decidable c} {x : Option α} (hc : c) (h : OK x P) : OK (@ite _ c i x none) P := by rw [if_pos hc]; exact h
theorem OK.ite {c : Prop} {i : Decidable c} {x y : Option α} (h : c → OK x P) (h' : ¬ c → OK y P) : OK (@ite _ c i x y) P := by split <;> simp_all
theorem OK.bif {c : Prop} {i : Decidable c} {x y : Option α} (h : c → OK x P) (h' : ¬ c → OK y P) : OK (bif @decide c i then x else y) P := by
  by_cases hc : c
  · simp only [hc, decide_true, cond_true]; exact h hc
  · simp only [hc, decide_false, cond_false]; exact h' hc
theorem OK.bifb {b : Bool} {x y : Option α} (h : b = true → OK x P) (h' : b = false → OK y P) : OK (bif b then x else y) P := by cases b <;> simp_all
theorem OK.bifn {b : Bool} {x y : Option α} (h : b = false → OK x P) (h' : b = true → OK y P) : OK (bif !b then x else y) P := by cases b <;> simp_all
theorem OK.bifnd {c : Prop} {i : Decidable c} {x y : Option α} (h : ¬ c → OK x P) (h' : c → OK y P) : OK (bif !(@decide c i) then x else y) P := by
  by_cases hc : c
  · simp only [hc, decide_true, Bool.not_true, cond_false]; exact h' hc
  · simp only [hc, decide_false, Bool.not_false, cond_true]; exact h hc
theorem ok_eq {o : Option α} {v : α} : OK o (fun r => r = v) ↔ o = some v := ⟨fun ⟨_, e, h⟩ => h ▸ e, fun e => ⟨v, e, rfl⟩⟩
theorem OK.of {o : Option α} {v : α} (h : o = some v) : OK o (fun r => r = v) := ok_eq.2 h
theorem OK.some {o : Option α} {v : α} (h : OK o (fun r => r = v)) : o = some v := ok_eq.1 h
end

theorem w64_eq (n : Int) : w64 n = (n + 9223372036854775808) % 18446744073709551616 - 9223372036854775808 := by
  show Go.IntKind.i64.wrap n = _
  rw [Go.IntKind.wrap_i64]
theorem w64_id {n : Int} (h : -9223372036854775808 ≤ n) (h' : n ≤ 9223372036854775807) : w64 n = n := by rw [w64_eq]; omega
theorem w64_range (n : Int) : -9223372036854775808 ≤ w64 n ∧ w64 n ≤ 9223372036854775807 := by rw [w64_eq]; omega
theorem capB_eq : capB = 549755813888 := rfl

/-- an element of a list -/
theorem getD_mem {α : Type} {l : List α} {i : Int} {d : α} (h0 : 0 ≤ i) (h : i < (l.length : Int)) : l.getD i.toNat d ∈ l := by
  have : i.toNat < l.length := by omega
  simp only [List.getD, List.getElem?_eq_getElem this, Option.getD_some]; exact List.getElem_mem this

/-- numbers of a list -/
def Sm (B : Int) (l : List Int) : Prop := (l.length : Int) ≤ B ∧ ∀ x ∈ l, -B ≤ x ∧ x ≤ B
theorem Sm.get {B : Int} {l : List Int} (h : Sm B l) (hB : 0 ≤ B) (n : Nat) : -B ≤ l.getD n 0 ∧ l.getD n 0 ≤ B := by
  by_cases hn : n < l.length
  · simp only [List.getD, List.getElem?_eq_getElem hn, Option.getD_some]; exact h.2 _ (List.getElem_mem hn)
  · simp [List.getD, List.getElem?_eq_none (Nat.le_of_not_lt hn)]; omega
end Pl
namespace Go.Proofs.YtobfbgmglopdhaaGreat
open Ab Pl

/-- the bytes of a code -/
def By (code : List Int) : Prop := ∀ x ∈ code, 0 ≤ x ∧ x < 256

theorem and255 (x : Int) : 0 ≤ w64 (IntKind.u64.wrap ((BitVec.ofInt IntKind.u64.bits x &&& BitVec.ofInt IntKind.u64.bits 255).toNat : Int)) ∧ w64 (IntKind.u64.wrap ((BitVec.ofInt IntKind.u64.bits x &&& BitVec.ofInt IntKind.u64.bits 255).toNat : Int)) < 256 := by
  have h1 : (BitVec.ofInt IntKind.u64.bits x &&& BitVec.ofInt IntKind.u64.bits 255).toNat ≤ 255 := by
    rw [BitVec.toNat_and]
    refine Nat.le_trans Nat.and_le_right ?_
    decide
  generalize (BitVec.ofInt IntKind.u64.bits x &&& BitVec.ofInt IntKind.u64.bits 255).toNat = m at h1
  rw [IntKind.wrap_u64, w64_eq]
  omega

theorem next_ok {code : List Int} (hb : By code) {a s : Int} (h0 : 0 ≤ a) (h1 : a ≤ 1000000000000) :
    OK (spec_l1Cur_next.f code a s) fun r => (0 ≤ r.1 ∧ r.1 < 256) ∧ r.2.1 = code ∧ r.2.2.1 = a + 1 := by
  have hw : w64 (a + 1) = a + 1 := w64_id (by omega) (by omega)
  simp only [spec_l1Cur_next.f, spec_l1Cur_next.B, hw]
  refine OK.bif (fun hc => ?_) fun hc => ?_
  · refine OK.req ⟨h0, hc⟩ ?_
    have hm := hb _ (getD_mem (d := 0) h0 hc)
    have hv : w64 (code.getD a.toNat 0) = code.getD a.toNat 0 := w64_id (by omega) (by omega)
    refine OK.bif (fun _ => OK.ret ⟨?_, rfl, rfl⟩) fun _ => OK.req (by omega) (OK.ret ⟨and255 _, rfl, rfl⟩)
    simp only [hv]; exact hm
  · refine OK.bif (fun _ => OK.ret ⟨by simp, rfl, rfl⟩) fun _ => OK.req (by omega) (OK.ret ⟨and255 _, rfl, rfl⟩)

theorem pick_ok {code : List Int} (hb : By code) {n a s : Int} (h0 : 0 ≤ a) (h1 : a ≤ 100000000000) :
    OK (spec_l1Cur_pick.f n code a s) fun r => 0 ≤ r.1 ∧ (1 ≤ n → r.1 < n) ∧ (n ≤ 1 → r.1 = 0) ∧ r.2.1 = code ∧ a ≤ r.2.2.1 ∧ r.2.2.1 ≤ a + 2 := by
  simp only [spec_l1Cur_pick.f, spec_l1Cur_pick.B]
  refine OK.bif (fun hc => OK.ret ⟨by simp, by intro; simp; omega, by simp, rfl, by simp, by (simp <;> omega)⟩) fun hc => ?_
  refine OK.bind (next_ok hb h0 (by omega)) ?_
  rintro ⟨v, c, a', s'⟩ ⟨hv, rfl, rfl⟩
  dsimp only at hv ⊢
  have tm : ∀ x : Int, 0 ≤ x → 0 ≤ Int.tmod x n ∧ Int.tmod x n < n := fun x hx => ⟨Int.tmod_nonneg n hx, Int.tmod_lt_of_pos x (by omega)⟩
  refine OK.bif (fun hn => ?_) fun hn => ?_
  · refine OK.bind (next_ok hb (by omega) (by omega)) ?_
    rintro ⟨v', c, a', s'⟩ ⟨hv', rfl, rfl⟩
    dsimp only at hv' ⊢
    rw [w64_id (n := v * 256) (by omega) (by omega), w64_id (n := v * 256 + v') (by omega) (by omega)]
    have := tm (v * 256 + v') (by omega)
    exact OK.req (by omega) (OK.ret ⟨this.1, fun _ => this.2, fun h => by omega, rfl, by (simp <;> omega), by (simp <;> omega)⟩)
  · have := tm v hv.1
    exact OK.req (by omega) (OK.ret ⟨this.1, fun _ => this.2, fun h => by omega, rfl, by (simp <;> omega), by (simp <;> omega)⟩)

theorem one_ok {code : List Int} (hb : By code) {n a s : Int} (h0 : 0 ≤ a) (h1 : a ≤ 100000000000) :
    OK (spec_l1Cur_one.f n code a s) fun r => r.2.1 = code ∧ a ≤ r.2.2.1 ∧ r.2.2.1 ≤ a + 2 := by
  simp only [spec_l1Cur_one.f, spec_l1Cur_one.B]
  refine OK.bind (pick_ok hb h0 h1) ?_
  rintro ⟨v, c, a', s'⟩ ⟨_, _, _, rfl, h2, h3⟩
  exact OK.ret ⟨rfl, h2, h3⟩

theorem among_ok {code : List Int} (hb : By code) {l : List Int} {a s : Int} (hl : 0 < l.length) (h0 : 0 ≤ a) (h1 : a ≤ 100000000000) :
    OK (spec_l1Cur_among.f l code a s) fun r => r.1 ∈ l ∧ r.2.1 = code ∧ a ≤ r.2.2.1 ∧ r.2.2.1 ≤ a + 2 := by
  simp only [spec_l1Cur_among.f, spec_l1Cur_among.B]
  refine OK.bind (pick_ok hb h0 h1) ?_
  rintro ⟨v, c, a', s'⟩ ⟨q1, q2, _, rfl, h2, h3⟩
  dsimp only at q1 q2 h2 h3 ⊢
  have := q2 (by omega)
  exact OK.req ⟨q1, this⟩ (OK.ret ⟨getD_mem q1 this, rfl, h2, h3⟩)
end Go.Proofs.YtobfbgmglopdhaaGreat
namespace Go.Proofs.YtobfbgmglopdhaaGreat
open Ab Pl

/-- rows of a length, of numbers within a bound -/
def Rw (n B : Int) (m : List (List Int)) : Prop := ∀ r ∈ m, (r.length : Int) = n ∧ ∀ x ∈ r, -B ≤ x ∧ x ≤ B
theorem Rw.nil {n B : Int} : Rw n B [] := fun r h => by simp at h
theorem Rw.snoc {n B : Int} {m : List (List Int)} {r : List Int} (h : Rw n B m) (h1 : (r.length : Int) = n) (h2 : ∀ x ∈ r, -B ≤ x ∧ x ≤ B) : Rw n B (m ++ [r]) := fun q hq => by
  rcases List.mem_append.1 hq with hq | hq
  · exact h q hq
  · rw [List.mem_singleton.1 hq]; exact ⟨h1, h2⟩
theorem Bd.snoc {B : Int} {l : List Int} {y : Int} (h : ∀ x ∈ l, -B ≤ x ∧ x ≤ B) (hy : -B ≤ y ∧ y ≤ B) : ∀ x ∈ l ++ [y], -B ≤ x ∧ x ≤ B := fun x hx => by
  rcases List.mem_append.1 hx with hx | hx
  · exact h x hx
  · rw [List.mem_singleton.1 hx]; exact hy
theorem Bd.set {B : Int} {l : List Int} {y : Int} {i : Nat} (h : ∀ x ∈ l, -B ≤ x ∧ x ≤ B) (hy : -B ≤ y ∧ y ≤ B) : ∀ x ∈ l.set i y, -B ≤ x ∧ x ≤ B := fun x hx => by
  rcases List.mem_or_eq_of_mem_set hx with hx | hx
  · exact h x hx
  · rw [hx]; exact hy
theorem Rw.set {n B : Int} {m : List (List Int)} {r : List Int} {i : Nat} (h : Rw n B m) (h1 : (r.length : Int) = n) (h2 : ∀ x ∈ r, -B ≤ x ∧ x ≤ B) : Rw n B (m.set i r) := fun q hq => by
  rcases List.mem_or_eq_of_mem_set hq with hq | hq
  · exact h q hq
  · rw [hq]; exact ⟨h1, h2⟩
theorem Rw.get {n B : Int} {m : List (List Int)} {i : Int} (h : Rw n B m) (h0 : 0 ≤ i) (hi : i < (m.length : Int)) : ((m.getD i.toNat []).length : Int) = n ∧ ∀ x ∈ m.getD i.toNat [], -B ≤ x ∧ x ≤ B := h _ (getD_mem h0 hi)

section uniform
variable {k : Nat} {n b B : Int} {P : List (List Int) → Prop}
theorem uniform_in (hn : n ≤ 1000) (hB : 0 ≤ b ∧ b ≤ B) {x6 : Int} {x4 x5 : List (List Int)} (h5 : x5.length ≤ 1000) {m : Nat}
    (hc : ∀ f, m ≤ f → ∀ row : List Int, (row.length : Int) = n → (∀ x ∈ row, -B ≤ x ∧ x ≤ B) → OK ((spec_l6Uniform.bs k f).1 n b (w64 (x6 + 1)) x4 (x5 ++ [row])) P) :
    ∀ (d : Nat) (f : Nat) (x8 : Int) (x7 : List Int), m + d + 1 ≤ f → x8 + d = n → (x7.length : Int) = x8 → (∀ x ∈ x7, -B ≤ x ∧ x ≤ B) → OK ((spec_l6Uniform.bs k f).2 n b x6 x8 x4 x5 x7) P := by
  intro d
  induction d with
  | zero =>
    intro f x8 x7 hf hd hl hx
    obtain ⟨f, rfl⟩ : ∃ g, f = g + 1 := ⟨f - 1, by omega⟩
    simp only [spec_l6Uniform.bs, spec_l6Uniform.B7]
    refine OK.bif (fun h => by omega) fun _ => OK.req (by rw [capB_eq]; omega) (hc f (by omega) x7 (by omega) hx)
  | succ d ih =>
    intro f x8 x7 hf hd hl hx
    obtain ⟨f, rfl⟩ : ∃ g, f = g + 1 := ⟨f - 1, by omega⟩
    simp only [spec_l6Uniform.bs, spec_l6Uniform.B7]
    rw [w64_id (n := x8 + 1) (by omega) (by omega)]
    refine OK.bif (fun h => ?_) fun h => by omega
    refine OK.bif (fun h => ?_) fun h => ?_
    · exact OK.req (by rw [capB_eq]; omega) (ih f _ _ (by omega) (by omega) (by simp; omega) (Bd.snoc hx (by omega)))
    · exact OK.req (by rw [capB_eq]; omega) (ih f _ _ (by omega) (by omega) (by simp; omega) (Bd.snoc hx (by omega)))

theorem uniform_out (hn : n ≤ 1000) (hB : 0 ≤ b ∧ b ≤ B) {x4 : List (List Int)} :
    ∀ (d : Nat) (f : Nat) (x6 : Int) (x5 : List (List Int)), 1002 * (d + 1) ≤ f → x6 + d = n → (x5.length : Int) = x6 → Rw n B x5 →
      OK ((spec_l6Uniform.bs k f).1 n b x6 x4 x5) fun r => (r.length : Int) = n ∧ Rw n B r := by
  intro d
  induction d with
  | zero =>
    intro f x6 x5 hf hd hl hx
    obtain ⟨f, rfl⟩ : ∃ g, f = g + 1 := ⟨f - 1, by omega⟩
    simp only [spec_l6Uniform.bs, spec_l6Uniform.B3]
    exact OK.bif (fun h => by omega) fun _ => OK.ret ⟨by omega, hx⟩
  | succ d ih =>
    intro f x6 x5 hf hd hl hx
    obtain ⟨f, rfl⟩ : ∃ g, f = g + 1 := ⟨f - 1, by omega⟩
    simp only [spec_l6Uniform.bs, spec_l6Uniform.B3]
    refine OK.bif (fun h => ?_) fun h => by omega
    refine uniform_in (B := B) hn hB (by omega) (m := 1002 * (d + 1)) (fun g hg row h1 h2 => ?_) n.toNat f 0 [] (by omega) (by omega) rfl (fun x hx => by simp at hx)
    rw [w64_id (n := x6 + 1) (by omega) (by omega)]
    exact ih g _ _ hg (by omega) (by simp; omega) (hx.snoc h1 h2)

theorem uniform_ok (hk : 2000000 ≤ k) (h0 : 0 ≤ n) (hn : n ≤ 1000) (hB : 0 ≤ b ∧ b ≤ B) : OK (spec_l6Uniform.f k n b) fun r => (r.length : Int) = n ∧ Rw n B r := by
  simp only [spec_l6Uniform.f, spec_l6Uniform.B]
  exact uniform_out hn hB n.toNat k 0 [] (by omega) (by omega) rfl Rw.nil
end uniform

theorem most_eq (a b : Int) : spec_l1Most.f a b = some (max a b) := by
  simp only [spec_l1Most.f, spec_l1Most.B]
  by_cases h : b < a
  · simp [h]; omega
  · simp [h]; omega
theorem least_eq (a b : Int) : spec_l1Least.f a b = some (min a b) := by
  simp only [spec_l1Least.f, spec_l1Least.B]
  by_cases h : a < b
  · simp [h]; omega
  · simp [h]; omega
theorem in_eq (a b c : Int) : spec_l1In.f a b c = some (decide (b ≤ a ∧ a ≤ c)) := by
  simp only [spec_l1In.f, spec_l1In.B]
  by_cases h : b ≤ a <;> simp [h]
theorem within_eq (a b c : Int) : impl_within.f a b c = some (decide (b ≤ a ∧ a ≤ c)) := by
  simp only [impl_within.f, impl_within.B]
  by_cases h : b ≤ a <;> simp [h]

section line
variable {k : Nat} {x0 : List Int} {P : List (List Int) → Prop}
theorem line_in (hn : x0.length ≤ 1000) (hx0 : ∀ x ∈ x0, -1000 ≤ x ∧ x ≤ 1000) {x4 : Int} {x2 : List (List Int)} (h4 : 0 ≤ x4 ∧ x4 < (x0.length : Int)) {m : Nat}
    (hc : ∀ f, m ≤ f → ∀ x3 : List (List Int), x3.length = x0.length → Rw x0.length 2000 x3 → OK ((spec_l6Line.bs k f).1 x0 (w64 (x4 + 1)) x2 x3) P) :
    ∀ (d : Nat) (f : Nat) (x5 : Int) (x3 : List (List Int)), m + d + 1 ≤ f → x5 + d = x0.length → 0 ≤ x5 → x3.length = x0.length → Rw x0.length 2000 x3 → OK ((spec_l6Line.bs k f).2 x0 x4 x5 x2 x3) P := by
  intro d
  induction d with
  | zero =>
    intro f x5 x3 hf hd h0 hl hx
    obtain ⟨f, rfl⟩ : ∃ g, f = g + 1 := ⟨f - 1, by omega⟩
    simp only [spec_l6Line.bs, spec_l6Line.B6]
    exact OK.bif (fun h => by omega) fun _ => hc f (by omega) x3 hl hx
  | succ d ih =>
    intro f x5 x3 hf hd h0 hl hx
    obtain ⟨f, rfl⟩ : ∃ g, f = g + 1 := ⟨f - 1, by omega⟩
    simp only [spec_l6Line.bs, spec_l6Line.B6]
    rw [w64_id (n := x5 + 1) (by omega) (by omega)]
    refine OK.bif (fun h => ?_) fun h => by omega
    have a1 := hx0 _ (getD_mem (d := 0) (show 0 ≤ x4 by omega) (show x4 < (x0.length : Int) by omega))
    have a2 := hx0 _ (getD_mem (d := 0) (show 0 ≤ x5 by omega) (show x5 < (x0.length : Int) by omega))
    have hg := hx.get (i := x4) (by omega) (by omega)
    refine OK.req (by omega) (OK.req (by omega) (OK.req (by omega) (OK.req (by omega) (OK.req (by omega) ?_))))
    rw [most_eq, w64_id (by omega) (by omega), w64_id (by omega) (by omega)]
    simp only [Option.bind_some]
    refine OK.req (by omega) (ih f _ _ (by omega) (by omega) (by omega) (by simp [hl]) (hx.set (by rw [List.length_set]; omega) (Bd.set hg.2 (by omega))))

theorem line_out (hn : x0.length ≤ 1000) (hx0 : ∀ x ∈ x0, -1000 ≤ x ∧ x ≤ 1000) {x2 : List (List Int)} :
    ∀ (d : Nat) (f : Nat) (x4 : Int) (x3 : List (List Int)), 1002 * (d + 1) ≤ f → x4 + d = x0.length → 0 ≤ x4 → x3.length = x0.length → Rw x0.length 2000 x3 →
      OK ((spec_l6Line.bs k f).1 x0 x4 x2 x3) fun r => r.length = x0.length ∧ Rw x0.length 2000 r := by
  intro d
  induction d with
  | zero =>
    intro f x4 x3 hf hd h0 hl hx
    obtain ⟨f, rfl⟩ : ∃ g, f = g + 1 := ⟨f - 1, by omega⟩
    simp only [spec_l6Line.bs, spec_l6Line.B3]
    exact OK.bif (fun h => by omega) fun _ => OK.ret ⟨hl, hx⟩
  | succ d ih =>
    intro f x4 x3 hf hd h0 hl hx
    obtain ⟨f, rfl⟩ : ∃ g, f = g + 1 := ⟨f - 1, by omega⟩
    simp only [spec_l6Line.bs, spec_l6Line.B3]
    refine OK.bif (fun h => ?_) fun h => by omega
    refine line_in hn hx0 (by omega) (m := 1002 * (d + 1)) (fun g hg y h1 h2 => ?_) x0.length f 0 x3 (by omega) (by omega) (by omega) hl hx
    rw [w64_id (n := x4 + 1) (by omega) (by omega)]
    exact ih g _ _ hg (by omega) (by omega) h1 h2

theorem line_ok (hk : 2000000 ≤ k) (hn : x0.length ≤ 1000) (hx0 : ∀ x ∈ x0, -1000 ≤ x ∧ x ≤ 1000) : OK (spec_l6Line.f k x0) fun r => r.length = x0.length ∧ Rw x0.length 2000 r := by
  simp only [spec_l6Line.f, spec_l6Line.B]
  refine OK.bind (uniform_ok (B := 2000) hk (by omega) (by omega) (by omega)) fun r hr => ?_
  exact line_out hn hx0 x0.length k 0 r (by omega) (by omega) (by omega) (by omega) hr.2
end line
end Go.Proofs.YtobfbgmglopdhaaGreat
namespace Go.Proofs.YtobfbgmglopdhaaGreat
open Ab Pl

theorem drop_at {α : Type} {l : List α} {i : Int} {d : α} (h0 : 0 ≤ i) (h : i < (l.length : Int)) : l.drop i.toNat = l.getD i.toNat d :: l.drop (i + 1).toNat := by
  have hi : i.toNat < l.length := by omega
  rw [List.drop_eq_getElem_cons hi]
  simp only [List.getD, List.getElem?_eq_getElem hi, Option.getD_some]
  rw [show (i + 1).toNat = i.toNat + 1 by omega]
theorem drop_end {α : Type} {l : List α} {i : Int} (h : (l.length : Int) ≤ i) : l.drop i.toNat = [] := List.drop_eq_nil_of_le (by omega)
theorem take_at {α : Type} {l : List α} {i : Int} {d : α} (h0 : 0 ≤ i) (h : i < (l.length : Int)) : l.take (i + 1).toNat = l.take i.toNat ++ [l.getD i.toNat d] := by
  have hi : i.toNat < l.length := by omega
  rw [show (i + 1).toNat = i.toNat + 1 by omega, List.take_succ_eq_append_getElem hi]
  simp only [List.getD, List.getElem?_eq_getElem hi, Option.getD_some]

/-- the least one -/
def minL (l : List Int) : Int := (l.drop 1).foldl min (l.getD 0 0)

theorem least8_eq {k : Nat} {l : List Int} (hk : 2000000 ≤ k) (h0 : 0 < l.length) (h1 : l.length ≤ 1000000) : spec_l8Least.f k l = some (minL l) := by
  have main : ∀ (d f : Nat) (x3 x4 : Int), d + 1 ≤ f → x4 + d = l.length → 0 ≤ x4 → spec_l8Least.bs k f l x3 x4 = some ((l.drop x4.toNat).foldl min x3) := by
    intro d
    induction d with
    | zero =>
      intro f x3 x4 hf hd h
      obtain ⟨f, rfl⟩ : ∃ g, f = g + 1 := ⟨f - 1, by omega⟩
      simp only [spec_l8Least.bs, spec_l8Least.B3]
      rw [drop_end (by omega)]
      have : ¬ x4 < (l.length : Int) := by omega
      simp [this]
    | succ d ih =>
      intro f x3 x4 hf hd h
      obtain ⟨f, rfl⟩ : ∃ g, f = g + 1 := ⟨f - 1, by omega⟩
      have hlt : x4 < (l.length : Int) := by omega
      simp only [spec_l8Least.bs, spec_l8Least.B3]
      rw [least_eq, w64_id (n := x4 + 1) (by omega) (by omega)]
      simp only [hlt, decide_true, cond_true, h, and_self, if_true, Option.bind_some]
      rw [ih f _ _ (by omega) (by omega) (by omega), drop_at (d := 0) h hlt]
      rfl
  simp only [spec_l8Least.f, spec_l8Least.B]
  rw [if_pos (by omega), main (l.length - 1) k _ 1 (by omega) (by omega) (by omega)]
  rfl

/-- costs of a request that are valid -/
def reqP (n : Int) (l : List Int) : Bool := l.all (fun c => decide (-1 ≤ c ∧ c ≤ 20)) && (decide ((l.length : Int) = n) && l.any fun c => decide (0 ≤ c))

theorem request_eq {k : Nat} {n : Int} {l : List Int} (hk : 2000000 ≤ k) (h1 : l.length ≤ 1000000) : spec_l8Request.f k n l = some (reqP n l) := by
  have main : ∀ (d f : Nat) (x5 : Bool) (x6 : Int), d + 1 ≤ f → x6 + d = l.length → 0 ≤ x6 →
      spec_l8Request.bs k f n l x5 x6 = some ((l.drop x6.toNat).all (fun c => decide (-1 ≤ c ∧ c ≤ 20)) && (decide ((l.length : Int) = n) && (x5 || (l.drop x6.toNat).any fun c => decide (0 ≤ c)))) := by
    intro d
    induction d with
    | zero =>
      intro f x5 x6 hf hd h
      obtain ⟨f, rfl⟩ : ∃ g, f = g + 1 := ⟨f - 1, by omega⟩
      simp only [spec_l8Request.bs, spec_l8Request.B3]
      rw [drop_end (by omega)]
      have : ¬ x6 < (l.length : Int) := by omega
      simp only [this, decide_false, cond_false, List.all_nil, List.any_nil, Bool.true_and, Bool.or_false]
      cases decide ((l.length : Int) = n) <;> rfl
    | succ d ih =>
      intro f x5 x6 hf hd h
      obtain ⟨f, rfl⟩ : ∃ g, f = g + 1 := ⟨f - 1, by omega⟩
      have hlt : x6 < (l.length : Int) := by omega
      simp only [spec_l8Request.bs, spec_l8Request.B3]
      rw [in_eq, w64_id (n := x6 + 1) (by omega) (by omega), drop_at (d := 0) h hlt]
      simp only [hlt, decide_true, cond_true, h, and_self, if_true, Option.bind_some, List.all_cons, List.any_cons]
      rw [ih f _ _ (by omega) (by omega) (by omega), ih f _ _ (by omega) (by omega) (by omega)]
      generalize l.getD x6.toNat 0 = y
      generalize (List.drop (x6 + 1).toNat l).all _ = q1
      generalize (List.drop (x6 + 1).toNat l).any _ = q2
      cases decide (-1 ≤ y ∧ y ≤ 20) <;> cases x5 <;> cases decide (0 ≤ y) <;> rfl
  simp only [spec_l8Request.f, spec_l8Request.B]
  rw [main l.length k false 0 (by omega) (by omega) (by omega)]
  simp [reqP]

/-- small tables -/
def Mx (m : List (List Int)) : Prop := m.length ≤ 100 ∧ ∀ r ∈ m, r.length ≤ 100 ∧ ∀ x ∈ r, -2000 ≤ x ∧ x ≤ 2000
theorem Rw.mx {n : Int} {m : List (List Int)} (h : Rw n 2000 m) (hn : n ≤ 100) (hl : m.length ≤ 100) : Mx m := ⟨hl, fun r hr => ⟨by have := (h r hr).1; omega, (h r hr).2⟩⟩
theorem Mx.set {m : List (List Int)} {r : List Int} {i : Nat} (h : Mx m) (h1 : r.length ≤ 100) (h2 : ∀ x ∈ r, -2000 ≤ x ∧ x ≤ 2000) : Mx (m.set i r) := ⟨by rw [List.length_set]; exact h.1, fun q hq => by
  rcases List.mem_or_eq_of_mem_set hq with hq | hq
  · exact h.2 q hq
  · rw [hq]; exact ⟨h1, h2⟩⟩
theorem Mx.append {m m' : List (List Int)} (h : Mx m) (h' : Mx m') (hl : m.length + m'.length ≤ 100) : Mx (m ++ m') := ⟨by simp; omega, fun r hr => (List.mem_append.1 hr).elim (h.2 r) (h'.2 r)⟩
theorem Bd.weak {B C : Int} {l : List Int} (h : ∀ x ∈ l, -B ≤ x ∧ x ≤ B) (hB : B ≤ C) : ∀ x ∈ l, -C ≤ x ∧ x ≤ C := fun x hx => by have := h x hx; omega
theorem Rw.weak {n B C : Int} {m : List (List Int)} (h : Rw n B m) (hB : B ≤ C) : Rw n C m := fun r hr => ⟨(h r hr).1, Bd.weak (h r hr).2 hB⟩

def ProbP (code : List Int) (A : Int) (r : List (List Int) × List Int × Int × Int × List (List Int)) : Prop :=
  Mx r.1 ∧ 1 ≤ r.1.length ∧ r.2.1 = code ∧ 0 ≤ r.2.2.1 ∧ r.2.2.1 ≤ A ∧ Mx r.2.2.2.2 ∧ 1 ≤ r.2.2.2.2.length

section problem
variable {k : Nat} {code : List Int} {n A : Int} {y0 y1 : List (List Int)}

theorem problem_25 (hn : 1 ≤ n ∧ n ≤ 4) {x9 : Int} {a s : Int} {mv : List (List Int)} (ha : 0 ≤ a ∧ a ≤ A) (hm : Mx mv ∧ 1 ≤ mv.length) :
    ∀ (d f : Nat) (x10 : Int) (sv : List (List Int)), d + 1 ≤ f → x10 + d = n → 0 ≤ x10 → Rw n 2000 sv → sv.length ≤ 100 → 0 ≤ x9 → x9 < (sv.length : Int) →
      OK ((spec_l1Cur_problem.bs k f).2.2 n x9 x10 code a s y0 y1 mv sv) (ProbP code A) := by
  intro d
  induction d with
  | zero =>
    intro f x10 sv hf hd h hr hl h9 h9'
    obtain ⟨f, rfl⟩ : ∃ g, f = g + 1 := ⟨f - 1, by omega⟩
    simp only [spec_l1Cur_problem.bs, spec_l1Cur_problem.B25]
    exact OK.bif (fun h => by omega) fun _ => OK.ret ⟨hr.mx (by omega) hl, by dsimp only; omega, rfl, ha.1, ha.2, hm⟩
  | succ d ih =>
    intro f x10 sv hf hd h hr hl h9 h9'
    obtain ⟨f, rfl⟩ : ∃ g, f = g + 1 := ⟨f - 1, by omega⟩
    simp only [spec_l1Cur_problem.bs, spec_l1Cur_problem.B25]
    rw [w64_id (n := x10 + 1) (by omega) (by omega)]
    have hg := hr.get h9 h9'
    refine OK.bif (fun h' => OK.req (by omega) (OK.req (by omega) ?_)) fun h' => by omega
    exact ih f _ _ (by omega) (by omega) (by omega) (hr.set (by rw [List.length_set]; omega) (Bd.set hg.2 (by omega))) (by rw [List.length_set]; omega) h9 (by rw [List.length_set]; omega)

theorem problem_11 (hk : 2000000 ≤ k) (hb : By code) (hn : 1 ≤ n ∧ n ≤ 4) (hA : A ≤ 1000000) {x6 : Int} {mv sv : List (List Int)} (hs : sv.length ≤ 50 ∧ Rw n 2000 sv) (h6 : 0 ≤ x6 ∧ x6 ≤ 100) {P : List (List Int) × List Int × Int × Int × List (List Int) → Prop} {m : Nat}
    (hc : ∀ f a s sv', m ≤ f → 0 ≤ a → a ≤ A → sv'.length = sv.length + 1 → Rw n 2000 sv' → OK ((spec_l1Cur_problem.bs k f).1 n (w64 (x6 - 1)) code a s y0 y1 mv sv') P) :
    ∀ (d f : Nat) (x8 a s : Int) (row : List Int), m + d + 1 ≤ f → x8 + d = n → 0 ≤ x8 → (row.length : Int) = x8 → (∀ x ∈ row, -2000 ≤ x ∧ x ≤ 2000) → 0 ≤ a → a + 2 * d + 4 ≤ A →
      OK ((spec_l1Cur_problem.bs k f).2.1 n x6 x8 code a s y0 y1 mv sv row) P := by
  intro d
  induction d with
  | zero =>
    intro f x8 a s row hf hd h hl hx ha haA
    obtain ⟨f, rfl⟩ : ∃ g, f = g + 1 := ⟨f - 1, by omega⟩
    simp only [spec_l1Cur_problem.bs, spec_l1Cur_problem.B11]
    refine OK.bif (fun h => by omega) fun _ => ?_
    rw [least8_eq hk (by omega) (by omega), request_eq hk (by omega)]
    simp only [Option.bind_some]
    have fin : ∀ a' s', 0 ≤ a' → a' ≤ A → OK ((spec_l1Cur_problem.bs k f).1 n (w64 (x6 - 1)) code a' s' y0 y1 mv (sv ++ [row])) P := fun a' s' h1 h2 =>
      hc f a' s' _ (by omega) h1 h2 (by simp) (hs.2.snoc (by omega) hx)
    have cor : ∀ a' s', 0 ≤ a' → a' + 2 ≤ A → OK ((spec_l1Cur_pick.f n code a' s').bind fun t => if (0 : Int) ≤ t.1 ∧ t.1 < (row.length : Int) then (if sv.length + 1 ≤ capB then ((spec_l1Cur_problem.bs k f).1 n (w64 (x6 - 1)) t.2.1 t.2.2.1 t.2.2.2 y0 y1 mv (sv ++ [row.set t.1.toNat 0])) else none) else none) P := by
      intro a' s' h1 h2
      refine OK.bind (pick_ok hb h1 (by omega)) ?_
      rintro ⟨v, c, a2, s2⟩ ⟨q1, q2, _, rfl, q3, q4⟩
      dsimp only at q1 q2 q3 q4 ⊢
      have := q2 (by omega)
      exact OK.req (by omega) (OK.req (by rw [capB_eq]; omega) (hc f a2 s2 _ (by omega) (by omega) (by omega) (by simp) (hs.2.snoc (by rw [List.length_set]; omega) (Bd.set hx (by omega)))))
    refine OK.bif (fun _ => ?_) fun _ => ?_
    · refine OK.bind (one_ok hb ha (by omega)) ?_
      rintro ⟨v, c, a2, s2⟩ ⟨rfl, q3, q4⟩
      dsimp only at q3 q4 ⊢
      refine OK.bifb (fun _ => cor a2 s2 (by omega) (by omega)) fun _ => ?_
      exact OK.bifn (fun _ => cor a2 s2 (by omega) (by omega)) fun _ => OK.req (by rw [capB_eq]; omega) (fin a2 s2 (by omega) (by omega))
    · exact OK.bifn (fun _ => cor a s (by omega) (by omega)) fun _ => OK.req (by rw [capB_eq]; omega) (fin a s (by omega) (by omega))
  | succ d ih =>
    intro f x8 a s row hf hd h hl hx ha haA
    obtain ⟨f, rfl⟩ : ∃ g, f = g + 1 := ⟨f - 1, by omega⟩
    simp only [spec_l1Cur_problem.bs, spec_l1Cur_problem.B11]
    refine OK.bif (fun _ => ?_) fun h => by omega
    refine OK.bind (among_ok hb (by simp) ha (by omega)) ?_
    rintro ⟨v, c, a2, s2⟩ ⟨q1, rfl, q3, q4⟩
    dsimp only at q1 q3 q4 ⊢
    rw [w64_id (n := x8 + 1) (by omega) (by omega)]
    have hv : -2000 ≤ v ∧ v ≤ 2000 := by
      simp only [List.mem_cons, List.not_mem_nil, or_false] at q1; omega
    exact OK.req (by rw [capB_eq]; omega) (ih f _ _ _ _ (by omega) (by omega) (by omega) (by simp; omega) (Bd.snoc hx hv) (by omega) (by omega))

theorem problem_7 (hk : 2000000 ≤ k) (hb : By code) (hn : 1 ≤ n ∧ n ≤ 4) (hA : A ≤ 1000000) {mv : List (List Int)} (hm : (mv.length : Int) = n ∧ Rw n 2000 mv) :
    ∀ (d f : Nat) (a s : Int) (sv : List (List Int)), 10 * (d + 1) ≤ f → sv.length + d ≤ 4 → 1 ≤ sv.length + d → Rw n 2000 sv → 0 ≤ a → a + 12 * d + 10 ≤ A →
      OK ((spec_l1Cur_problem.bs k f).1 n d code a s y0 y1 mv sv) (ProbP code A) := by
  intro d
  induction d with
  | zero =>
    intro f a s sv hf hd hd1 hr ha haA
    obtain ⟨f, rfl⟩ : ∃ g, f = g + 1 := ⟨f - 1, by omega⟩
    simp only [spec_l1Cur_problem.bs, spec_l1Cur_problem.B7]
    refine OK.bif (fun h => by omega) fun _ => ?_
    have hmv : Mx mv ∧ 1 ≤ mv.length := ⟨hm.2.mx (by omega) (by omega), by omega⟩
    have hsv : Mx sv := hr.mx (by omega) (by omega)
    refine OK.bind (pick_ok hb ha (by omega)) ?_
    rintro ⟨v, c, a2, s2⟩ ⟨q1, q2, _, rfl, q3, q4⟩
    dsimp only at q1 q2 q3 q4 ⊢
    have q2 := q2 (by omega)
    refine OK.bind (pick_ok hb (by omega) (by omega)) ?_
    rintro ⟨v3, c, a3, s3⟩ ⟨_, _, _, rfl, r3, r4⟩
    dsimp only at r3 r4 ⊢
    have hg := hr.get q1 q2
    refine OK.bif (fun _ => ?_) fun _ => OK.bif (fun _ => ?_) fun _ => OK.bif (fun _ => ?_) fun _ => OK.bif (fun _ => ?_) fun _ => OK.bif (fun _ => ?_) fun _ => OK.bif (fun _ => ?_) fun _ => ?_
    · refine OK.req ⟨q1, q2⟩ (OK.bind (among_ok hb (by simp) (by omega) (by omega)) ?_)
      rintro ⟨v4, c, a4, s4⟩ ⟨p1, rfl, p3, p4⟩
      dsimp only at p1 p3 p4 ⊢
      have hv : -2000 ≤ v4 ∧ v4 ≤ 2000 := by
        simp only [List.mem_cons, List.not_mem_nil, or_false] at p1; omega
      exact OK.req (by omega) (OK.ret ⟨hsv.set (by rw [List.length_set]; omega) (Bd.set hg.2 hv), by rw [List.length_set]; omega, rfl, by dsimp only; omega, by dsimp only; omega, hmv⟩)
    · refine OK.req ⟨q1, q2⟩ (OK.req (by rw [capB_eq]; omega) (OK.req ⟨q1, q2⟩ (OK.req trivial (OK.ret ⟨hsv.set (by rw [List.length_append, List.length_singleton]; omega) (Bd.snoc hg.2 (by omega)), by rw [List.length_set]; omega, rfl, by dsimp only; omega, by dsimp only; omega, hmv⟩))))
    · exact problem_25 hn ⟨by omega, by omega⟩ hmv n.toNat f 0 sv (by omega) (by omega) (by omega) hr (by omega) q1 q2
    · refine OK.req (by omega) (OK.bind (among_ok hb (by simp) (by omega) (by omega)) ?_)
      rintro ⟨v4, c, a4, s4⟩ ⟨p1, rfl, p3, p4⟩
      dsimp only at p1 p3 p4 ⊢
      have hv : -2000 ≤ v4 ∧ v4 ≤ 2000 := by
        simp only [List.mem_cons, List.not_mem_nil, or_false] at p1; omega
      have hg0 := hm.2.get (i := 0) (by omega) (by omega)
      rw [show (0 : Int).toNat = 0 from rfl] at hg0
      rw [w64_id (n := n - 1) (by omega) (by omega)]
      exact OK.req (by omega) (OK.ret ⟨hsv, by omega, rfl, by dsimp only; omega, by dsimp only; omega, hmv.1.set (by rw [List.length_set]; omega) (Bd.set hg0.2 hv), by rw [List.length_set]; omega⟩)
    · refine OK.req (by rw [capB_eq]; omega) (OK.req (by rw [capB_eq]; simp only [List.length_append]; omega) (OK.req (by rw [capB_eq]; simp only [List.length_append]; omega) (OK.ret ⟨?_, by simp only [List.length_append]; omega, rfl, by dsimp only; omega, by dsimp only; omega, hmv⟩)))
      exact ((hsv.append hsv (by omega)).append hsv (by simp only [List.length_append]; omega)).append hsv (by simp only [List.length_append]; omega)
    · refine OK.bind (uniform_ok (B := 2000) hk (by omega) (by omega) (by omega)) fun r hr' => OK.ret ⟨hsv, by dsimp only; omega, rfl, by dsimp only; omega, by dsimp only; omega, hr'.2.mx (by omega) (by omega), by dsimp only; omega⟩
    · exact OK.ret ⟨hsv, by omega, rfl, by dsimp only; omega, by dsimp only; omega, hmv⟩
  | succ d ih =>
    intro f a s sv hf hd hd1 hr ha haA
    obtain ⟨f, rfl⟩ : ∃ g, f = g + 1 := ⟨f - 1, by omega⟩
    simp only [spec_l1Cur_problem.bs, spec_l1Cur_problem.B7]
    refine OK.bif (fun h => ?_) fun h => by omega
    refine problem_11 (A := A - 12 * d - 10) hk hb hn (by omega) (m := 10 * (d + 1)) ⟨by omega, hr⟩ (by omega) (fun f' a' s' sv' h1 h2 h3 h4 h5 => ?_) n.toNat f 0 a s [] (by omega) (by omega) (by omega) rfl (fun x hx => by simp at hx) ha (by omega)
    have e : w64 (((d + 1 : Nat) : Int) - 1) = (d : Int) := by rw [w64_id (by omega) (by omega)]; omega
    rw [e]
    exact ih f' a' s' sv' h1 (by omega) (by omega) h5 h2 (by omega)

theorem problem_ok (hk : 2000000 ≤ k) (hb : By code) {a s : Int} (h0 : 0 ≤ a) (h1 : a ≤ 1000) : OK (spec_l1Cur_problem.f k code a s) (ProbP code (a + 100)) := by
  simp only [spec_l1Cur_problem.f, spec_l1Cur_problem.B]
  refine OK.bind (among_ok hb (by simp) h0 (by omega)) ?_
  rintro ⟨n, c, a1, s1⟩ ⟨q1, rfl, q3, q4⟩
  dsimp only at q1 q3 q4 ⊢
  have hn : 1 ≤ n ∧ n ≤ 4 := by
    simp only [List.mem_cons, List.not_mem_nil, or_false] at q1; omega
  refine OK.bind (pick_ok hb (by omega) (by omega)) ?_
  rintro ⟨b, c, a2, s2⟩ ⟨p1, p2, _, rfl, p3, p4⟩
  dsimp only at p1 p2 p3 p4 ⊢
  have p2 := p2 (by omega)
  rw [w64_id (n := 1 + b) (by omega) (by omega)]
  refine OK.bind (uniform_ok (B := 2000) hk (by omega) (by omega) (by omega)) fun mv hmv => ?_
  refine OK.bind (one_ok hb (by omega) (by omega)) ?_
  rintro ⟨o, c, a3, s3⟩ ⟨rfl, r3, r4⟩
  dsimp only at r3 r4 ⊢
  refine OK.bifb (fun _ => ?_) fun _ => ?_
  · refine OK.bind (pick_ok hb (by omega) (by omega)) ?_
    rintro ⟨u1, c, a4, s4⟩ ⟨w1, w2, _, rfl, w3, w4⟩
    dsimp only at w1 w2 w3 w4 ⊢
    refine OK.bind (pick_ok hb (by omega) (by omega)) ?_
    rintro ⟨u2, c, a5, s5⟩ ⟨v1, v2, _, rfl, v3, v4⟩
    dsimp only at v1 v2 v3 v4 ⊢
    refine OK.bind (pick_ok hb (by omega) (by omega)) ?_
    rintro ⟨u3, c, a6, s6⟩ ⟨z1, z2, _, rfl, z3, z4⟩
    dsimp only at z1 z2 z3 z4 ⊢
    have w2 := w2 (by omega)
    have v2 := v2 (by omega)
    have z2 := z2 (by omega)
    refine OK.req (by simp; omega) ?_
    have hlen : (List.take (n - 0).toNat (List.drop 0 [u1, w64 (2 + u2), 5, w64 (6 + u3)])).length = n.toNat := by simp; omega
    refine OK.bind (line_ok hk (by omega) (fun x hx => ?_)) fun mv2 hmv2 => ?_
    · have hx := List.mem_of_mem_take hx
      rw [w64_id (n := 2 + u2) (by omega) (by omega), w64_id (n := 6 + u3) (by omega) (by omega)] at hx
      simp only [List.drop_zero, List.mem_cons, List.not_mem_nil, or_false] at hx; omega
    · rw [hlen] at hmv2
      refine OK.bind (among_ok hb (by simp) (by omega) (by omega)) ?_
      rintro ⟨d, c, a7, s7⟩ ⟨g1, rfl, g3, g4⟩
      dsimp only at g1 g3 g4 ⊢
      have hd : 1 ≤ d ∧ d ≤ 4 := by
        simp only [List.mem_cons, List.not_mem_nil, or_false] at g1; omega
      obtain ⟨d, rfl⟩ := Int.eq_ofNat_of_zero_le (show 0 ≤ d by omega)
      have e : ((n.toNat : Nat) : Int) = n := by omega
      exact problem_7 hk hb hn (by omega) ⟨by omega, by have := hmv2.2; rwa [e] at this⟩ d k a7 s7 [] (by omega) (by simp; omega) (by simp; omega) Rw.nil (by omega) (by omega)
  · refine OK.bind (among_ok hb (by simp) (by omega) (by omega)) ?_
    rintro ⟨d, c, a7, s7⟩ ⟨g1, rfl, g3, g4⟩
    dsimp only at g1 g3 g4 ⊢
    have hd : 1 ≤ d ∧ d ≤ 4 := by
      simp only [List.mem_cons, List.not_mem_nil, or_false] at g1; omega
    obtain ⟨d, rfl⟩ := Int.eq_ofNat_of_zero_le (show 0 ≤ d by omega)
    exact problem_7 hk hb hn (by omega) ⟨hmv.1, hmv.2⟩ d k a7 s7 [] (by omega) (by simp; omega) (by simp; omega) Rw.nil (by omega) (by omega)
end problem
end Go.Proofs.YtobfbgmglopdhaaGreat
namespace Go.Proofs.YtobfbgmglopdhaaGreat
open Ab Pl

/-- a search through a list -/
theorem search {α : Type} {L : Nat → Int → Option Int} {l : List α} {d : α} {p : α → Bool}
    (hL : ∀ f i, 0 ≤ i → i < (l.length : Int) → L (f + 1) i = bif p (l.getD i.toNat d) then some i else L f (i + 1))
    (hE : ∀ f i, (l.length : Int) ≤ i → L (f + 1) i = some (-1)) :
    ∀ (m f : Nat) (i : Int), m + 1 ≤ f → i + m = l.length → 0 ≤ i → ∃ j, L f i = some j ∧ (decide (0 ≤ j) = (l.drop i.toNat).any p) := by
  intro m
  induction m with
  | zero =>
    intro f i hf hi h0
    obtain ⟨f, rfl⟩ : ∃ g, f = g + 1 := ⟨f - 1, by omega⟩
    exact ⟨-1, hE f i (by omega), by rw [drop_end (by omega)]; rfl⟩
  | succ m ih =>
    intro f i hf hi h0
    obtain ⟨f, rfl⟩ : ∃ g, f = g + 1 := ⟨f - 1, by omega⟩
    rw [hL f i h0 (by omega), drop_at (d := d) h0 (by omega), List.any_cons]
    cases hp : p (l.getD i.toNat d) with
    | true => exact ⟨i, rfl, by simp; omega⟩
    | false =>
      obtain ⟨j, h1, h2⟩ := ih f (i + 1) (by omega) (by omega) (by omega)
      exact ⟨j, by simpa using h1, by simpa using h2⟩

/-- a contract of 'is there one' -/
theorem contains_of {α : Type} {L : Nat → Int → Option Int} {l : List α} {d : α} {p : α → Bool} {k : Nat} (hk : 2000000 ≤ k) (hl : l.length ≤ 1000000)
    (hL : ∀ f i, 0 ≤ i → i < (l.length : Int) → L (f + 1) i = bif p (l.getD i.toNat d) then some i else L f (i + 1))
    (hE : ∀ f i, (l.length : Int) ≤ i → L (f + 1) i = some (-1)) : (L k 0).bind (fun t => some (decide ((0 : Int) ≤ t))) = some (l.any p) := by
  obtain ⟨j, h1, h2⟩ := search hL hE l.length k 0 (by omega) (by omega) (by omega)
  rw [h1]
  simpa using h2

theorem bool_eta (b : Bool) : (bif b then some true else some false) = some b := by cases b <;> rfl

section
variable {k : Nat}
theorem tableRows_eq (hk : 2000000 ≤ k) {m : List (List Int)} {n : Int} (hm : m.length ≤ 1000000) : slices_ContainsFunc_at_Metric_isTable_1.f k m n = some (m.any fun r => !decide ((r.length : Int) = n)) := by
  simp only [slices_ContainsFunc_at_Metric_isTable_1.f, slices_ContainsFunc_at_Metric_isTable_1.B, slices_IndexFunc_at_Metric_isTable_1.f, slices_IndexFunc_at_Metric_isTable_1.B]
  refine contains_of (L := fun f i => slices_IndexFunc_at_Metric_isTable_1.bs k f m n (m.length : Int) i) (d := []) hk hm (fun f i h0 h1 => ?_) fun f i h => ?_
  · simp only [slices_IndexFunc_at_Metric_isTable_1.bs, slices_IndexFunc_at_Metric_isTable_1.B2, h0, h1, decide_true, cond_true, and_self, if_true, impl_Metric_isTable_1.f, impl_Metric_isTable_1.B, Option.bind_some]
    rw [w64_id (by omega) (by omega)]
  · have : ¬ i < (m.length : Int) := by omega
    simp only [slices_IndexFunc_at_Metric_isTable_1.bs, slices_IndexFunc_at_Metric_isTable_1.B2, this, decide_false, cond_false]

theorem costs_eq (hk : 2000000 ≤ k) {l : List Int} (hm : l.length ≤ 1000000) : slices_ContainsFunc_at_IsProblem_1_1.f k l = some (l.any fun c => !decide (-1 ≤ c ∧ c ≤ 20)) := by
  simp only [slices_ContainsFunc_at_IsProblem_1_1.f, slices_ContainsFunc_at_IsProblem_1_1.B, slices_IndexFunc_at_IsProblem_1_1.f, slices_IndexFunc_at_IsProblem_1_1.B]
  refine contains_of (L := fun f i => slices_IndexFunc_at_IsProblem_1_1.bs k f l (l.length : Int) i) (d := 0) hk hm (fun f i h0 h1 => ?_) fun f i h => ?_
  · simp only [slices_IndexFunc_at_IsProblem_1_1.bs, slices_IndexFunc_at_IsProblem_1_1.B2, h0, h1, decide_true, cond_true, and_self, if_true, impl_IsProblem_1_1.f, impl_IsProblem_1_1.B, within_eq, Option.bind_some]
    rw [w64_id (by omega) (by omega)]
  · have : ¬ i < (l.length : Int) := by omega
    simp only [slices_IndexFunc_at_IsProblem_1_1.bs, slices_IndexFunc_at_IsProblem_1_1.B2, this, decide_false, cond_false]

theorem below_eq (hk : 2000000 ≤ k) {l : List Int} {n : Int} (hn : 0 ≤ n ∧ n ≤ 1000000) (hm : l.length ≤ 1000000) : impl_areBelow.f k n l = some (l.all fun c => decide (0 ≤ c ∧ c ≤ n - 1)) := by
  have : slices_ContainsFunc_at_areBelow_1.f k l n = some (l.any fun c => !decide (0 ≤ c ∧ c ≤ n - 1)) := by
    simp only [slices_ContainsFunc_at_areBelow_1.f, slices_ContainsFunc_at_areBelow_1.B, slices_IndexFunc_at_areBelow_1.f, slices_IndexFunc_at_areBelow_1.B]
    refine contains_of (L := fun f i => slices_IndexFunc_at_areBelow_1.bs k f l n (l.length : Int) i) (d := 0) hk hm (fun f i h0 h1 => ?_) fun f i h => ?_
    · simp only [slices_IndexFunc_at_areBelow_1.bs, slices_IndexFunc_at_areBelow_1.B2, h0, h1, decide_true, cond_true, and_self, if_true, impl_areBelow_1.f, impl_areBelow_1.B, within_eq, Option.bind_some]
      rw [w64_id (n := i + 1) (by omega) (by omega), w64_id (n := n - 1) (by omega) (by omega)]
    · have : ¬ i < (l.length : Int) := by omega
      simp only [slices_IndexFunc_at_areBelow_1.bs, slices_IndexFunc_at_areBelow_1.B2, this, decide_false, cond_false]
  simp only [impl_areBelow.f, impl_areBelow.B, this, Option.bind_some]
  rw [List.not_any_eq_all_not]; simp

theorem weights_eq (hk : 2000000 ≤ k) {l : List Int} {n : Int} (hm : l.length ≤ 1000000) : impl_areWeights.f k l n = some (l.all fun c => decide (n ≤ c ∧ c ≤ 9)) := by
  have : slices_ContainsFunc_at_areWeights_1.f k l n = some (l.any fun c => !decide (n ≤ c ∧ c ≤ 9)) := by
    simp only [slices_ContainsFunc_at_areWeights_1.f, slices_ContainsFunc_at_areWeights_1.B, slices_IndexFunc_at_areWeights_1.f, slices_IndexFunc_at_areWeights_1.B]
    refine contains_of (L := fun f i => slices_IndexFunc_at_areWeights_1.bs k f l n (l.length : Int) i) (d := 0) hk hm (fun f i h0 h1 => ?_) fun f i h => ?_
    · simp only [slices_IndexFunc_at_areWeights_1.bs, slices_IndexFunc_at_areWeights_1.B2, h0, h1, decide_true, cond_true, and_self, if_true, impl_areWeights_1.f, impl_areWeights_1.B, within_eq, Option.bind_some]
      rw [w64_id (n := i + 1) (by omega) (by omega)]
    · have : ¬ i < (l.length : Int) := by omega
      simp only [slices_IndexFunc_at_areWeights_1.bs, slices_IndexFunc_at_areWeights_1.B2, this, decide_false, cond_false]
  simp only [impl_areWeights.f, impl_areWeights.B, this, Option.bind_some]
  rw [List.not_any_eq_all_not]; simp

/-- all elements of a list hold, by a loop -/
theorem allLoop {α : Type} {L : Nat → Int → Option Bool} {l : List α} {d : α} {p : α → Bool}
    (hL : ∀ f i, 0 ≤ i → i < (l.length : Int) → L (f + 1) i = bif !(p (l.getD i.toNat d)) then some false else L f (i + 1))
    (hE : ∀ f i, (l.length : Int) ≤ i → L (f + 1) i = some true) :
    ∀ (m f : Nat) (i : Int), m + 1 ≤ f → i + m = l.length → 0 ≤ i → L f i = some ((l.drop i.toNat).all p) := by
  intro m
  induction m with
  | zero =>
    intro f i hf hi h0
    obtain ⟨f, rfl⟩ : ∃ g, f = g + 1 := ⟨f - 1, by omega⟩
    rw [hE f i (by omega), drop_end (by omega)]; rfl
  | succ m ih =>
    intro f i hf hi h0
    obtain ⟨f, rfl⟩ : ∃ g, f = g + 1 := ⟨f - 1, by omega⟩
    rw [hL f i h0 (by omega), drop_at (d := d) h0 (by omega), List.all_cons, ih f (i + 1) (by omega) (by omega) (by omega)]
    cases p (l.getD i.toNat d) <;> rfl

theorem weightsS_eq (hk : 2000000 ≤ k) {l : List Int} {n : Int} (hm : l.length ≤ 1000000) : spec_l11Weights.f k l n = some (l.all fun c => decide (n ≤ c ∧ c ≤ 9)) := by
  simp only [spec_l11Weights.f, spec_l11Weights.B]
  refine allLoop (L := fun f i => spec_l11Weights.bs k f l n i) (d := 0) (fun f i h0 h1 => ?_) (fun f i h => ?_) l.length k 0 (by omega) (by omega) (by omega)
  · simp only [spec_l11Weights.bs, spec_l11Weights.B2, h0, h1, decide_true, cond_true, and_self, if_true, in_eq, Option.bind_some]
    rw [w64_id (n := i + 1) (by omega) (by omega)]
  · have : ¬ i < (l.length : Int) := by omega
    simp only [spec_l11Weights.bs, spec_l11Weights.B2, this, decide_false, cond_false]

theorem max_eq (hk : 2000000 ≤ k) {l : List Int} (h0 : 0 < l.length) (h1 : l.length ≤ 1000000) : ∃ m, slices_Max.f k l = some m ∧ (decide (m < 0) = !(l.any fun c => decide (0 ≤ c))) := by
  have main : ∀ (d f : Nat) (x3 x4 : Int), d + 1 ≤ f → x4 + d = l.length → 0 ≤ x4 → slices_Max.bs k f l x3 x4 = some ((l.drop x4.toNat).foldl max x3) := by
    intro d
    induction d with
    | zero =>
      intro f x3 x4 hf hd h
      obtain ⟨f, rfl⟩ : ∃ g, f = g + 1 := ⟨f - 1, by omega⟩
      simp only [slices_Max.bs, slices_Max.B5]
      rw [drop_end (by omega)]
      have : ¬ x4 < (l.length : Int) := by omega
      simp [this]
    | succ d ih =>
      intro f x3 x4 hf hd h
      obtain ⟨f, rfl⟩ : ∃ g, f = g + 1 := ⟨f - 1, by omega⟩
      have hlt : x4 < (l.length : Int) := by omega
      simp only [slices_Max.bs, slices_Max.B5]
      rw [w64_id (n := x4 + 1) (by omega) (by omega)]
      simp only [hlt, decide_true, cond_true, h, and_self, if_true]
      rw [ih f _ _ (by omega) (by omega) (by omega), drop_at (d := 0) h hlt]
      rfl
  have fm : ∀ (l : List Int) (x : Int), decide (l.foldl max x < 0) = (decide (x < 0) && !(l.any fun c => decide (0 ≤ c))) := by
    intro l
    induction l with
    | nil => intro x; by_cases h : x < 0 <;> simp [h]
    | cons y l ih =>
      intro x
      rw [List.foldl_cons, ih, List.any_cons]
      by_cases hx : x < 0 <;> by_cases hy : 0 ≤ y
      · have : ¬ (max x y < 0) := by omega
        simp [hy, this]
      · have : max x y < 0 := by omega
        simp [hx, hy, this]
      · have : ¬ (max x y < 0) := by omega
        simp [hx, this]
      · have : ¬ (max x y < 0) := by omega
        simp [hx, this]
  refine ⟨(l.drop 1).foldl max (l.getD 0 0), ?_, ?_⟩
  · simp only [slices_Max.f, slices_Max.B]
    have : ¬ (l.length : Int) < 1 := by omega
    simp only [this, decide_false, cond_false]
    rw [if_pos (by omega), main (l.length - 1) k _ 1 (by omega) (by omega) (by omega)]
    rfl
  · rw [fm]
    have : l = l.getD 0 0 :: l.drop 1 := by
      have := drop_at (l := l) (i := 0) (d := 0) (by omega) (by omega)
      simpa using this
    conv => rhs; rw [this, List.any_cons]
    by_cases h : 0 ≤ l.getD 0 0
    · have h' : ¬ l.getD 0 0 < 0 := by omega
      simp only [h, h', decide_false, decide_true, Bool.false_and, Bool.true_or, Bool.not_true]
    · have h' : l.getD 0 0 < 0 := by omega
      simp only [h, h', decide_false, decide_true, Bool.true_and, Bool.false_or]

theorem badRow_eq (hk : 2000000 ≤ k) {l : List Int} {n : Int} (hn : 1 ≤ n) (h1 : l.length ≤ 1000000) : impl_IsProblem_1.f k l n = some (!reqP n l) := by
  simp only [impl_IsProblem_1.f, impl_IsProblem_1.B, costs_eq hk h1, Option.bind_some]
  have ha : (l.any fun c => !decide (-1 ≤ c ∧ c ≤ 20)) = !(l.all fun c => decide (-1 ≤ c ∧ c ≤ 20)) := by rw [List.not_all_eq_any_not]
  rw [ha]
  simp only [reqP]
  by_cases hl : (l.length : Int) = n
  · obtain ⟨m, e, hm⟩ := max_eq hk (l := l) (by omega) h1
    rw [e]
    simp only [hl, decide_true, Bool.not_true, cond_false, Option.bind_some, hm, Bool.true_and]
    cases l.all _ <;> simp
  · simp only [hl, decide_false, Bool.not_false, cond_true, Bool.false_and, Bool.and_false]

theorem badRows_eq (hk : 2000000 ≤ k) {m : List (List Int)} {n : Int} (hn : 1 ≤ n) (hm : Mx m) : slices_ContainsFunc_at_IsProblem_1.f k m n = some (m.any fun r => !reqP n r) := by
  simp only [slices_ContainsFunc_at_IsProblem_1.f, slices_ContainsFunc_at_IsProblem_1.B, slices_IndexFunc_at_IsProblem_1.f, slices_IndexFunc_at_IsProblem_1.B]
  have := hm.1
  refine contains_of (L := fun f i => slices_IndexFunc_at_IsProblem_1.bs k f m n (m.length : Int) i) (d := []) hk (by omega) (fun f i h0 h1 => ?_) fun f i h => ?_
  · have hr := (hm.2 _ (getD_mem (d := []) h0 h1)).1
    simp only [slices_IndexFunc_at_IsProblem_1.bs, slices_IndexFunc_at_IsProblem_1.B2, h0, h1, decide_true, cond_true, and_self, if_true]
    rw [badRow_eq hk hn (by omega), w64_id (n := i + 1) (by omega) (by omega)]
    rfl
  · have : ¬ i < (m.length : Int) := by omega
    simp only [slices_IndexFunc_at_IsProblem_1.bs, slices_IndexFunc_at_IsProblem_1.B2, this, decide_false, cond_false]
end
end Go.Proofs.YtobfbgmglopdhaaGreat
namespace Go.Proofs.YtobfbgmglopdhaaGreat
open Ab Pl

/-- a cell of a table -/
def ce (m : List (List Int)) (i j : Int) : Int := (m.getD i.toNat []).getD j.toNat 0
def CellOK (m : List (List Int)) (i j : Int) : Prop := ce m i j = ce m j i ∧ (i = j → ce m i j = 0) ∧ (i ≠ j → 1 ≤ ce m i j ∧ ce m i j ≤ 99)
def SqP (m : List (List Int)) : Prop := (1 ≤ m.length ∧ m.length ≤ 6) ∧ ∀ r ∈ m, (r.length : Int) = m.length
def CellsP (m : List (List Int)) : Prop := ∀ i j, 0 ≤ i → i < (m.length : Int) → 0 ≤ j → j < (m.length : Int) → CellOK m i j
def TabP (m : List (List Int)) : Prop := SqP m ∧ CellsP m
def NoDet (m : List (List Int)) : Prop := ∀ i x j, 0 ≤ i → i < (m.length : Int) → 0 ≤ x → x < (m.length : Int) → 0 ≤ j → j < (m.length : Int) → ce m i j ≤ ce m i x + ce m x j
def MetP (m : List (List Int)) : Prop := TabP m ∧ NoDet m

theorem getD_bd {B : Int} {l : List Int} (h : ∀ x ∈ l, -B ≤ x ∧ x ≤ B) (hB : 0 ≤ B) (n : Nat) : -B ≤ l.getD n 0 ∧ l.getD n 0 ≤ B := by
  by_cases hn : n < l.length
  · simp only [List.getD, List.getElem?_eq_getElem hn, Option.getD_some]; exact h _ (List.getElem_mem hn)
  · simp only [List.getD, List.getElem?_eq_none (Nat.le_of_not_lt hn), Option.getD_none]; omega
theorem SqP.row {m : List (List Int)} (h : SqP m) {i : Int} (h0 : 0 ≤ i) (hi : i < (m.length : Int)) : ((m.getD i.toNat []).length : Int) = m.length := h.2 _ (getD_mem h0 hi)
theorem Mx.ce {m : List (List Int)} (h : Mx m) (i j : Int) : -2000 ≤ ce m i j ∧ ce m i j ≤ 2000 := by
  unfold Go.Proofs.YtobfbgmglopdhaaGreat.ce
  by_cases hi : i.toNat < m.length
  · have hr : m.getD i.toNat [] ∈ m := by simp only [List.getD, List.getElem?_eq_getElem hi, Option.getD_some]; exact List.getElem_mem hi
    exact getD_bd (h.2 _ hr).2 (by omega) _
  · rw [show m.getD i.toNat [] = [] by simp [List.getD, List.getElem?_eq_none (Nat.le_of_not_lt hi)]]
    simp [List.getD]

section
variable {k : Nat} {m : List (List Int)} {Q : Bool → Prop}

theorem table_in (hs : SqP m) (hbad : ∀ i j, 0 ≤ i → i < (m.length : Int) → 0 ≤ j → j < (m.length : Int) → ¬ CellOK m i j → Q false) {i : Int} (h0 : 0 ≤ i) (hi : i < (m.length : Int)) {z : Nat}
    (hc : ∀ f, z ≤ f → (∀ j, 0 ≤ j → j < (m.length : Int) → CellOK m i j) → OK ((impl_Metric_isTable.bs k f).1 false m.length (w64 (i + 1)) m) Q) :
    ∀ (d f : Nat) (j : Int), z + d + 1 ≤ f → j + d = m.length → 0 ≤ j → (∀ j', 0 ≤ j' → j' < j → CellOK m i j') →
      OK ((impl_Metric_isTable.bs k f).2 false i m.length i (m.getD i.toNat []) m.length j m) Q := by
  intro d
  induction d with
  | zero =>
    intro f j hf hd hj hp
    obtain ⟨f, rfl⟩ : ∃ g, f = g + 1 := ⟨f - 1, by omega⟩
    simp only [impl_Metric_isTable.bs, impl_Metric_isTable.B8]
    exact OK.bif (fun h => by omega) fun _ => hc f (by omega) fun j' h1 h2 => hp j' h1 (by omega)
  | succ d ih =>
    intro f j hf hd hj hp
    obtain ⟨f, rfl⟩ : ∃ g, f = g + 1 := ⟨f - 1, by omega⟩
    simp only [impl_Metric_isTable.bs, impl_Metric_isTable.B8, cond_false]
    have hl := hs.1
    have hr := hs.row h0 hi
    have hr2 := hs.row hj (show j < (m.length : Int) by omega)
    rw [w64_id (n := j + 1) (by omega) (by omega)]
    have bad : ¬ CellOK m i j → OK (some false) Q := fun h => OK.ret (hbad i j h0 hi hj (by omega) h)
    have good : CellOK m i j → OK ((impl_Metric_isTable.bs k f).2 false i m.length i (m.getD i.toNat []) m.length (j + 1) m) Q := fun h =>
      ih f (j + 1) (by omega) (by omega) (by omega) fun j' h1 h2 => by
        by_cases e : j' = j
        · rw [e]; exact h
        · exact hp j' h1 (by omega)
    unfold CellOK Go.Proofs.YtobfbgmglopdhaaGreat.ce at bad good
    refine OK.bif (fun _ => ?_) fun h => by omega
    repeat' (first
      | (refine OK.req ⟨by omega, by omega⟩ ?_)
      | (refine OK.bif (fun _ => ?_) fun _ => ?_)
      | (refine OK.bifnd (fun _ => ?_) fun _ => ?_))
    all_goals (first | exact bad (by omega) | exact good (by omega))

theorem table_out (hs : SqP m) (hbad : ∀ i j, 0 ≤ i → i < (m.length : Int) → 0 ≤ j → j < (m.length : Int) → ¬ CellOK m i j → Q false) (hgood : CellsP m → Q true) :
    ∀ (d f : Nat) (i : Int), 8 * (d + 1) ≤ f → i + d = m.length → 0 ≤ i → (∀ i' j, 0 ≤ i' → i' < i → 0 ≤ j → j < (m.length : Int) → CellOK m i' j) →
      OK ((impl_Metric_isTable.bs k f).1 false m.length i m) Q := by
  intro d
  induction d with
  | zero =>
    intro f i hf hd hi hp
    obtain ⟨f, rfl⟩ : ∃ g, f = g + 1 := ⟨f - 1, by omega⟩
    simp only [impl_Metric_isTable.bs, impl_Metric_isTable.B5]
    exact OK.bif (fun h => by omega) fun _ => OK.ret (hgood fun i' j h1 h2 h3 h4 => hp i' j h1 (by omega) h3 h4)
  | succ d ih =>
    intro f i hf hd hi hp
    obtain ⟨f, rfl⟩ : ∃ g, f = g + 1 := ⟨f - 1, by omega⟩
    simp only [impl_Metric_isTable.bs, impl_Metric_isTable.B5]
    have hl := hs.1
    refine OK.bif (fun h => OK.req ⟨hi, h⟩ ?_) fun h => by omega
    rw [hs.row hi (by omega)]
    refine table_in hs hbad hi (by omega) (z := 8 * (d + 1)) (fun g hg hrow => ?_) m.length f 0 (by omega) (by omega) (by omega) fun j' h1 h2 => by omega
    rw [w64_id (n := i + 1) (by omega) (by omega)]
    refine ih g (i + 1) hg (by omega) (by omega) fun i' j h1 h2 h3 h4 => ?_
    by_cases e : i' = i
    · rw [e]; exact hrow j h3 h4
    · exact hp i' j h1 (by omega) h3 h4

open Classical in
theorem table_eq (hk : 2000000 ≤ k) (hm : m.length ≤ 1000000) : impl_Metric_isTable.f k m false = some (decide (TabP m)) := by
  simp only [impl_Metric_isTable.f, impl_Metric_isTable.B, within_eq, tableRows_eq hk hm, Option.bind_some]
  by_cases hs : SqP m
  · have h1 : 1 ≤ (m.length : Int) ∧ (m.length : Int) ≤ 6 := by have := hs.1; omega
    have h2 : (m.any fun r => !decide ((r.length : Int) = m.length)) = false := by
      rw [List.any_eq_false]; intro r hr; simp [hs.2 r hr]
    simp only [h1, decide_true, and_self, Bool.not_true, cond_false, h2]
    refine OK.some (table_out hs (fun i j a b c d hn => ?_) (fun hc => ?_) m.length k 0 (by have := hs.1; omega) (by omega) (by omega) fun i' j h1 h2 => by omega)
    · exact (decide_eq_false fun hT => hn (hT.2 i j a b c d)).symm
    · exact (decide_eq_true ⟨hs, hc⟩).symm
  · have hT : decide (TabP m) = false := decide_eq_false fun h => hs h.1
    rw [hT]
    by_cases h1 : 1 ≤ (m.length : Int) ∧ (m.length : Int) ≤ 6
    · have h2 : (m.any fun r => !decide ((r.length : Int) = m.length)) = true := by
        cases hb : m.any fun r => !decide ((r.length : Int) = m.length) with
        | true => rfl
        | false =>
          rw [List.any_eq_false] at hb
          exact absurd ⟨⟨by omega, by omega⟩, fun r hr => by have := hb r hr; simpa using this⟩ hs
      simp [h1, h2]
    · simp [h1]

theorem tableS_in (hs : SqP m) (hbad : ∀ i j, 0 ≤ i → i < (m.length : Int) → 0 ≤ j → j < (m.length : Int) → ¬ CellOK m i j → Q false) {i : Int} (h0 : 0 ≤ i) (hi : i < (m.length : Int)) {z : Nat}
    (hc : ∀ f, z ≤ f → (∀ j, 0 ≤ j → j < (m.length : Int) → CellOK m i j) → OK ((spec_l6Table.bs k f).2.1 false m.length (w64 (i + 1)) m) Q) :
    ∀ (d f : Nat) (j : Int), z + d + 1 ≤ f → j + d = m.length → 0 ≤ j → (∀ j', 0 ≤ j' → j' < j → CellOK m i j') →
      OK ((spec_l6Table.bs k f).2.2 false m.length i j m) Q := by
  intro d
  induction d with
  | zero =>
    intro f j hf hd hj hp
    obtain ⟨f, rfl⟩ : ∃ g, f = g + 1 := ⟨f - 1, by omega⟩
    simp only [spec_l6Table.bs, spec_l6Table.B13]
    exact OK.bif (fun h => by omega) fun _ => hc f (by omega) fun j' h1 h2 => hp j' h1 (by omega)
  | succ d ih =>
    intro f j hf hd hj hp
    obtain ⟨f, rfl⟩ : ∃ g, f = g + 1 := ⟨f - 1, by omega⟩
    simp only [spec_l6Table.bs, spec_l6Table.B13, cond_false, in_eq, Option.bind_some]
    have hl := hs.1
    have hr := hs.row h0 hi
    have hr2 := hs.row hj (show j < (m.length : Int) by omega)
    rw [w64_id (n := j + 1) (by omega) (by omega)]
    have bad : ¬ CellOK m i j → OK (some false) Q := fun h => OK.ret (hbad i j h0 hi hj (by omega) h)
    have good : CellOK m i j → OK ((spec_l6Table.bs k f).2.2 false m.length i (j + 1) m) Q := fun h =>
      ih f (j + 1) (by omega) (by omega) (by omega) fun j' h1 h2 => by
        by_cases e : j' = j
        · rw [e]; exact h
        · exact hp j' h1 (by omega)
    unfold CellOK Go.Proofs.YtobfbgmglopdhaaGreat.ce at bad good
    refine OK.bif (fun _ => ?_) fun h => by omega
    repeat' (first
      | (refine OK.req ⟨by omega, by omega⟩ ?_)
      | (refine OK.bif (fun _ => ?_) fun _ => ?_)
      | (refine OK.bifnd (fun _ => ?_) fun _ => ?_))
    all_goals (first | exact bad (by omega) | exact good (by omega))

theorem tableS_out (hs : SqP m) (hbad : ∀ i j, 0 ≤ i → i < (m.length : Int) → 0 ≤ j → j < (m.length : Int) → ¬ CellOK m i j → Q false) (hgood : CellsP m → Q true) :
    ∀ (d f : Nat) (i : Int), 8 * (d + 1) ≤ f → i + d = m.length → 0 ≤ i → (∀ i' j, 0 ≤ i' → i' < i → 0 ≤ j → j < (m.length : Int) → CellOK m i' j) →
      OK ((spec_l6Table.bs k f).2.1 false m.length i m) Q := by
  intro d
  induction d with
  | zero =>
    intro f i hf hd hi hp
    obtain ⟨f, rfl⟩ : ∃ g, f = g + 1 := ⟨f - 1, by omega⟩
    simp only [spec_l6Table.bs, spec_l6Table.B10]
    exact OK.bif (fun h => by omega) fun _ => OK.ret (hgood fun i' j h1 h2 h3 h4 => hp i' j h1 (by omega) h3 h4)
  | succ d ih =>
    intro f i hf hd hi hp
    obtain ⟨f, rfl⟩ : ∃ g, f = g + 1 := ⟨f - 1, by omega⟩
    simp only [spec_l6Table.bs, spec_l6Table.B10]
    have hl := hs.1
    refine OK.bif (fun h => ?_) fun h => by omega
    refine tableS_in hs hbad hi (by omega) (z := 8 * (d + 1)) (fun g hg hrow => ?_) m.length f 0 (by omega) (by omega) (by omega) fun j' h1 h2 => by omega
    rw [w64_id (n := i + 1) (by omega) (by omega)]
    refine ih g (i + 1) hg (by omega) (by omega) fun i' j h1 h2 h3 h4 => ?_
    by_cases e : i' = i
    · rw [e]; exact hrow j h3 h4
    · exact hp i' j h1 (by omega) h3 h4

theorem tableS_rows (h1 : 1 ≤ m.length ∧ m.length ≤ 6) (hbad : ¬ SqP m → Q false) {z : Nat} (hc : ∀ f, z ≤ f → SqP m → OK ((spec_l6Table.bs k f).2.1 false m.length 0 m) Q) :
    ∀ (d f : Nat) (i : Int), z + d + 1 ≤ f → i + d = m.length → 0 ≤ i → (∀ i', 0 ≤ i' → i' < i → ((m.getD i'.toNat []).length : Int) = m.length) → OK ((spec_l6Table.bs k f).1 false m.length i m) Q := by
  intro d
  induction d with
  | zero =>
    intro f i hf hd hi hp
    obtain ⟨f, rfl⟩ : ∃ g, f = g + 1 := ⟨f - 1, by omega⟩
    simp only [spec_l6Table.bs, spec_l6Table.B5]
    refine OK.bif (fun h => by omega) fun _ => hc f (by omega) ⟨h1, fun r hr => ?_⟩
    obtain ⟨n, hn, rfl⟩ := List.getElem_of_mem hr
    have := hp n (by omega) (by omega)
    simpa [List.getD, List.getElem?_eq_getElem hn] using this
  | succ d ih =>
    intro f i hf hd hi hp
    obtain ⟨f, rfl⟩ : ∃ g, f = g + 1 := ⟨f - 1, by omega⟩
    simp only [spec_l6Table.bs, spec_l6Table.B5]
    refine OK.bif (fun h => OK.req ⟨hi, h⟩ ?_) fun h => by omega
    refine OK.bifnd (fun hn => OK.ret (hbad fun hs => hn (hs.row hi (by omega)))) fun hrow => ?_
    rw [w64_id (n := i + 1) (by omega) (by omega)]
    refine ih f (i + 1) (by omega) (by omega) (by omega) fun i' h1 h2 => ?_
    by_cases e : i' = i
    · rw [e]; exact hrow
    · exact hp i' h1 (by omega)

open Classical in
theorem tableS_eq (hk : 2000000 ≤ k) (hm : m.length ≤ 1000000) : spec_l6Table.f k m false = some (decide (TabP m)) := by
  simp only [spec_l6Table.f, spec_l6Table.B, in_eq, Option.bind_some]
  by_cases h1 : 1 ≤ (m.length : Int) ∧ (m.length : Int) ≤ 6
  · simp only [h1, decide_true, and_self, Bool.not_true, cond_false]
    refine OK.some (tableS_rows ⟨by omega, by omega⟩ (fun hn => (decide_eq_false fun h => hn h.1).symm) (z := 100) (fun f hf hs => ?_) m.length k 0 (by omega) (by omega) (by omega) fun i' h1 h2 => by omega)
    refine tableS_out hs (fun i j a b c d hn => ?_) (fun hc => ?_) m.length f 0 (by have := hs.1; omega) (by omega) (by omega) fun i' j h1 h2 => by omega
    · exact (decide_eq_false fun hT => hn (hT.2 i j a b c d)).symm
    · exact (decide_eq_true ⟨hs, hc⟩).symm
  · have hT : decide (TabP m) = false := decide_eq_false fun h => h1 (by have := h.1.1; omega)
    rw [hT]; simp [h1]

end
end Go.Proofs.YtobfbgmglopdhaaGreat
namespace Go.Proofs.YtobfbgmglopdhaaGreat
open Ab Pl

section
variable {k : Nat} {m : List (List Int)} {Q : Bool × List Int → Prop}

theorem det_8 (hs : SqP m) (hm : Mx m) (hbad : ¬ NoDet m → ∀ l, Q (true, l)) {i x : Int} (hi : 0 ≤ i ∧ i < (m.length : Int)) (hx : 0 ≤ x ∧ x < (m.length : Int)) {z : Nat}
    (hc : ∀ f, z ≤ f → (∀ j, 0 ≤ j → j < (m.length : Int) → ce m i j ≤ ce m i x + ce m x j) → OK ((impl_Metric_detour.bs k f).2.1 i (m.getD i.toNat []) m m.length i (m.getD i.toNat []) m.length (w64 (x + 1)) m) Q) :
    ∀ (d f : Nat) (j : Int), z + d + 1 ≤ f → j + d = m.length → 0 ≤ j → (∀ j', 0 ≤ j' → j' < j → ce m i j' ≤ ce m i x + ce m x j') →
      OK ((impl_Metric_detour.bs k f).2.2 i (m.getD i.toNat []) x ((m.getD i.toNat []).getD x.toNat 0) m m.length i (m.getD i.toNat []) m.length x m.length j m) Q := by
  intro d
  have hl := hs.1
  induction d with
  | zero =>
    intro f j hf hd hj hp
    obtain ⟨f, rfl⟩ : ∃ g, f = g + 1 := ⟨f - 1, by omega⟩
    simp only [impl_Metric_detour.bs, impl_Metric_detour.B8]
    exact OK.bif (fun h => by omega) fun _ => hc f (by omega) fun j' h1 h2 => hp j' h1 (by omega)
  | succ d ih =>
    intro f j hf hd hj hp
    obtain ⟨f, rfl⟩ : ∃ g, f = g + 1 := ⟨f - 1, by omega⟩
    simp only [impl_Metric_detour.bs, impl_Metric_detour.B8]
    have hr := hs.row hi.1 hi.2
    have hr2 := hs.row hx.1 hx.2
    have b1 := hm.ce i x
    have b2 := hm.ce x j
    have e1 : ce m i x = (m.getD i.toNat []).getD x.toNat 0 := rfl
    have e2 : ce m x j = (m.getD x.toNat []).getD j.toNat 0 := rfl
    have e3 : ce m i j = (m.getD i.toNat []).getD j.toNat 0 := rfl
    rw [w64_id (n := j + 1) (by omega) (by omega), ← e1, ← e2, ← e3, w64_id (n := ce m i x + ce m x j) (by omega) (by omega)]
    refine OK.bif (fun h => OK.req (by omega) (OK.req (by omega) (OK.req (by omega) ?_))) fun h => by omega
    refine OK.bif (fun h => OK.ret (hbad (fun hn => ?_) _)) fun h => ?_
    · have := hn i x j hi.1 hi.2 hx.1 hx.2 hj (by omega); omega
    · refine ih f (j + 1) (by omega) (by omega) (by omega) fun j' h1 h2 => ?_
      by_cases e : j' = j
      · rw [e]; omega
      · exact hp j' h1 (by omega)

theorem det_5 (hs : SqP m) (hm : Mx m) (hbad : ¬ NoDet m → ∀ l, Q (true, l)) {i : Int} (hi : 0 ≤ i ∧ i < (m.length : Int)) {z : Nat}
    (hc : ∀ f, z ≤ f → (∀ x j, 0 ≤ x → x < (m.length : Int) → 0 ≤ j → j < (m.length : Int) → ce m i j ≤ ce m i x + ce m x j) → OK ((impl_Metric_detour.bs k f).1 m m.length (w64 (i + 1)) m) Q) :
    ∀ (d f : Nat) (x : Int), z + 8 * d + 1 ≤ f → x + d = m.length → 0 ≤ x → (∀ x' j, 0 ≤ x' → x' < x → 0 ≤ j → j < (m.length : Int) → ce m i j ≤ ce m i x' + ce m x' j) →
      OK ((impl_Metric_detour.bs k f).2.1 i (m.getD i.toNat []) m m.length i (m.getD i.toNat []) m.length x m) Q := by
  intro d
  have hl := hs.1
  induction d with
  | zero =>
    intro f x hf hd hx hp
    obtain ⟨f, rfl⟩ : ∃ g, f = g + 1 := ⟨f - 1, by omega⟩
    simp only [impl_Metric_detour.bs, impl_Metric_detour.B5]
    exact OK.bif (fun h => by omega) fun _ => hc f (by omega) fun x' j h1 h2 h3 h4 => hp x' j h1 (by omega) h3 h4
  | succ d ih =>
    intro f x hf hd hx hp
    obtain ⟨f, rfl⟩ : ∃ g, f = g + 1 := ⟨f - 1, by omega⟩
    simp only [impl_Metric_detour.bs, impl_Metric_detour.B5]
    have hr := hs.row hi.1 hi.2
    refine OK.bif (fun h => OK.req (by omega) ?_) fun h => by omega
    refine det_8 hs hm hbad hi ⟨hx, by omega⟩ (z := z + 8 * d + 1) (fun g hg hrow => ?_) m.length f 0 (by omega) (by omega) (by omega) fun j' h1 h2 => by omega
    rw [w64_id (n := x + 1) (by omega) (by omega)]
    refine ih g (x + 1) (by omega) (by omega) (by omega) fun x' j h1 h2 h3 h4 => ?_
    by_cases e : x' = x
    · rw [e]; exact hrow j h3 h4
    · exact hp x' j h1 (by omega) h3 h4

theorem det_2 (hs : SqP m) (hm : Mx m) (hbad : ¬ NoDet m → ∀ l, Q (true, l)) (hgood : NoDet m → Q (false, [])) :
    ∀ (d f : Nat) (i : Int), 100 * (d + 1) ≤ f → i + d = m.length → 0 ≤ i → (∀ i' x j, 0 ≤ i' → i' < i → 0 ≤ x → x < (m.length : Int) → 0 ≤ j → j < (m.length : Int) → ce m i' j ≤ ce m i' x + ce m x j) →
      OK ((impl_Metric_detour.bs k f).1 m m.length i m) Q := by
  intro d
  have hl := hs.1
  induction d with
  | zero =>
    intro f i hf hd hi hp
    obtain ⟨f, rfl⟩ : ∃ g, f = g + 1 := ⟨f - 1, by omega⟩
    simp only [impl_Metric_detour.bs, impl_Metric_detour.B2]
    exact OK.bif (fun h => by omega) fun _ => OK.ret (hgood fun i' x j h1 h2 => hp i' x j h1 (by omega))
  | succ d ih =>
    intro f i hf hd hi hp
    obtain ⟨f, rfl⟩ : ∃ g, f = g + 1 := ⟨f - 1, by omega⟩
    simp only [impl_Metric_detour.bs, impl_Metric_detour.B2]
    refine OK.bif (fun h => OK.req ⟨hi, h⟩ ?_) fun h => by omega
    rw [hs.row hi (by omega)]
    refine det_5 hs hm hbad ⟨hi, by omega⟩ (z := 100 * (d + 1)) (fun g hg hrow => ?_) m.length f 0 (by omega) (by omega) (by omega) fun x' j h1 h2 => by omega
    rw [w64_id (n := i + 1) (by omega) (by omega)]
    refine ih g (i + 1) hg (by omega) (by omega) fun i' x j h1 h2 => ?_
    by_cases e : i' = i
    · rw [e]; exact hrow x j
    · exact hp i' x j h1 (by omega)

theorem det_ok (hk : 2000000 ≤ k) (hs : SqP m) (hm : Mx m) (hbad : ¬ NoDet m → ∀ l, Q (true, l)) (hgood : NoDet m → Q (false, [])) : OK (impl_Metric_detour.f k m) Q := by
  simp only [impl_Metric_detour.f, impl_Metric_detour.B]
  exact det_2 hs hm hbad hgood m.length k 0 (by have := hs.1; omega) (by omega) (by omega) fun i' x j h1 h2 => by omega

open Classical in
theorem metric_eq (hk : 2000000 ≤ k) (hm : Mx m) : impl_IsMetric.f k m = some (decide (MetP m)) := by
  have := hm.1
  simp only [impl_IsMetric.f, impl_IsMetric.B, table_eq hk (m := m) (by omega), Option.bind_some]
  by_cases hT : TabP m
  · simp only [hT, decide_true, Bool.not_true, cond_false]
    refine OK.some (OK.bind (det_ok hk hT.1 hm (Q := fun r => r.1 = decide (¬ NoDet m)) (fun h l => (decide_eq_true h).symm) (fun h => (decide_eq_false fun hn => hn h).symm)) ?_)
    rintro ⟨b, l⟩ hb
    dsimp only at hb ⊢
    refine OK.ret ?_
    rw [hb]
    by_cases hn : NoDet m <;> simp [MetP, hT, hn]
  · have : decide (MetP m) = false := decide_eq_false fun h => hT h.1
    simp [hT, this]
end

section
variable {k : Nat} {m : List (List Int)} {Q : List Int → Prop}

theorem detS_9 (hs : SqP m) (hm : Mx m) (hbad : ¬ NoDet m → ∀ a b c, Q [a, b, c]) {i x : Int} (hi : 0 ≤ i ∧ i < (m.length : Int)) (hx : 0 ≤ x ∧ x < (m.length : Int)) {z : Nat}
    (hc : ∀ f, z ≤ f → (∀ j, 0 ≤ j → j < (m.length : Int) → ce m i j ≤ ce m i x + ce m x j) → OK ((spec_l6Detour.bs k f).2.1 m.length i (w64 (x + 1)) m) Q) :
    ∀ (d f : Nat) (j : Int), z + d + 1 ≤ f → j + d = m.length → 0 ≤ j → (∀ j', 0 ≤ j' → j' < j → ce m i j' ≤ ce m i x + ce m x j') →
      OK ((spec_l6Detour.bs k f).2.2 m.length i x j m) Q := by
  intro d
  have hl := hs.1
  induction d with
  | zero =>
    intro f j hf hd hj hp
    obtain ⟨f, rfl⟩ : ∃ g, f = g + 1 := ⟨f - 1, by omega⟩
    simp only [spec_l6Detour.bs, spec_l6Detour.B9]
    exact OK.bif (fun h => by omega) fun _ => hc f (by omega) fun j' h1 h2 => hp j' h1 (by omega)
  | succ d ih =>
    intro f j hf hd hj hp
    obtain ⟨f, rfl⟩ : ∃ g, f = g + 1 := ⟨f - 1, by omega⟩
    simp only [spec_l6Detour.bs, spec_l6Detour.B9]
    have hr := hs.row hi.1 hi.2
    have hr2 := hs.row hx.1 hx.2
    have b1 := hm.ce i x
    have b2 := hm.ce x j
    have e1 : ce m i x = (m.getD i.toNat []).getD x.toNat 0 := rfl
    have e2 : ce m x j = (m.getD x.toNat []).getD j.toNat 0 := rfl
    have e3 : ce m i j = (m.getD i.toNat []).getD j.toNat 0 := rfl
    rw [w64_id (n := j + 1) (by omega) (by omega), ← e1, ← e2, ← e3, w64_id (n := ce m i x + ce m x j) (by omega) (by omega)]
    refine OK.bif (fun h => OK.req (by omega) (OK.req (by omega) (OK.req (by omega) (OK.req (by omega) (OK.req (by omega) (OK.req (by omega) ?_)))))) fun h => by omega
    refine OK.bif (fun h => OK.ret (hbad (fun hn => ?_) _ _ _)) fun h => ?_
    · have := hn i x j hi.1 hi.2 hx.1 hx.2 hj (by omega); omega
    · refine ih f (j + 1) (by omega) (by omega) (by omega) fun j' h1 h2 => ?_
      by_cases e : j' = j
      · rw [e]; omega
      · exact hp j' h1 (by omega)

theorem detS_6 (hs : SqP m) (hm : Mx m) (hbad : ¬ NoDet m → ∀ a b c, Q [a, b, c]) {i : Int} (hi : 0 ≤ i ∧ i < (m.length : Int)) {z : Nat}
    (hc : ∀ f, z ≤ f → (∀ x j, 0 ≤ x → x < (m.length : Int) → 0 ≤ j → j < (m.length : Int) → ce m i j ≤ ce m i x + ce m x j) → OK ((spec_l6Detour.bs k f).1 m.length (w64 (i + 1)) m) Q) :
    ∀ (d f : Nat) (x : Int), z + 8 * d + 1 ≤ f → x + d = m.length → 0 ≤ x → (∀ x' j, 0 ≤ x' → x' < x → 0 ≤ j → j < (m.length : Int) → ce m i j ≤ ce m i x' + ce m x' j) →
      OK ((spec_l6Detour.bs k f).2.1 m.length i x m) Q := by
  intro d
  have hl := hs.1
  induction d with
  | zero =>
    intro f x hf hd hx hp
    obtain ⟨f, rfl⟩ : ∃ g, f = g + 1 := ⟨f - 1, by omega⟩
    simp only [spec_l6Detour.bs, spec_l6Detour.B6]
    exact OK.bif (fun h => by omega) fun _ => hc f (by omega) fun x' j h1 h2 h3 h4 => hp x' j h1 (by omega) h3 h4
  | succ d ih =>
    intro f x hf hd hx hp
    obtain ⟨f, rfl⟩ : ∃ g, f = g + 1 := ⟨f - 1, by omega⟩
    simp only [spec_l6Detour.bs, spec_l6Detour.B6]
    refine OK.bif (fun h => ?_) fun h => by omega
    refine detS_9 hs hm hbad hi ⟨hx, by omega⟩ (z := z + 8 * d + 1) (fun g hg hrow => ?_) m.length f 0 (by omega) (by omega) (by omega) fun j' h1 h2 => by omega
    rw [w64_id (n := x + 1) (by omega) (by omega)]
    refine ih g (x + 1) (by omega) (by omega) (by omega) fun x' j h1 h2 h3 h4 => ?_
    by_cases e : x' = x
    · rw [e]; exact hrow j h3 h4
    · exact hp x' j h1 (by omega) h3 h4

theorem detS_3 (hs : SqP m) (hm : Mx m) (hbad : ¬ NoDet m → ∀ a b c, Q [a, b, c]) (hgood : NoDet m → Q []) :
    ∀ (d f : Nat) (i : Int), 100 * (d + 1) ≤ f → i + d = m.length → 0 ≤ i → (∀ i' x j, 0 ≤ i' → i' < i → 0 ≤ x → x < (m.length : Int) → 0 ≤ j → j < (m.length : Int) → ce m i' j ≤ ce m i' x + ce m x j) →
      OK ((spec_l6Detour.bs k f).1 m.length i m) Q := by
  intro d
  have hl := hs.1
  induction d with
  | zero =>
    intro f i hf hd hi hp
    obtain ⟨f, rfl⟩ : ∃ g, f = g + 1 := ⟨f - 1, by omega⟩
    simp only [spec_l6Detour.bs, spec_l6Detour.B3]
    exact OK.bif (fun h => by omega) fun _ => OK.ret (hgood fun i' x j h1 h2 => hp i' x j h1 (by omega))
  | succ d ih =>
    intro f i hf hd hi hp
    obtain ⟨f, rfl⟩ : ∃ g, f = g + 1 := ⟨f - 1, by omega⟩
    simp only [spec_l6Detour.bs, spec_l6Detour.B3]
    refine OK.bif (fun h => ?_) fun h => by omega
    refine detS_6 hs hm hbad ⟨hi, by omega⟩ (z := 100 * (d + 1)) (fun g hg hrow => ?_) m.length f 0 (by omega) (by omega) (by omega) fun x' j h1 h2 => by omega
    rw [w64_id (n := i + 1) (by omega) (by omega)]
    refine ih g (i + 1) hg (by omega) (by omega) fun i' x j h1 h2 => ?_
    by_cases e : i' = i
    · rw [e]; exact hrow x j
    · exact hp i' x j h1 (by omega)

theorem detS_ok (hk : 2000000 ≤ k) (hs : SqP m) (hm : Mx m) (hbad : ¬ NoDet m → ∀ a b c, Q [a, b, c]) (hgood : NoDet m → Q []) : OK (spec_l6Detour.f k m) Q := by
  simp only [spec_l6Detour.f, spec_l6Detour.B]
  exact detS_3 hs hm hbad hgood m.length k 0 (by have := hs.1; omega) (by omega) (by omega) fun i' x j h1 h2 => by omega

open Classical in
theorem good6_eq (hk : 2000000 ≤ k) (hm : Mx m) : spec_l6Good.f k m = some (decide (MetP m)) := by
  have := hm.1
  simp only [spec_l6Good.f, spec_l6Good.B, tableS_eq hk (m := m) (by omega), Option.bind_some]
  by_cases hT : TabP m
  · simp only [hT, decide_true, cond_true]
    refine OK.some (OK.bind (detS_ok hk hT.1 hm (Q := fun r => decide ((r.length : Int) = 0) = decide (NoDet m)) (fun h a b c => by simp [h]) (fun h => by simp [h])) ?_)
    intro l hb
    refine OK.ret ?_
    rw [hb]
    by_cases hn : NoDet m <;> simp [MetP, hT, hn]
  · have : decide (MetP m) = false := decide_eq_false fun h => hT h.1
    simp [hT, this]

/-- a problem that is valid -/
def GoodP (mv sv : List (List Int)) : Prop := (1 ≤ mv.length ∧ mv.length ≤ 4) ∧ MetP mv ∧ (1 ≤ sv.length ∧ sv.length ≤ 4) ∧ ∀ r ∈ sv, reqP mv.length r = true

variable {mv sv : List (List Int)}
open Classical in
theorem problemI_eq (hk : 2000000 ≤ k) (h1 : Mx mv) (h2 : Mx sv) : impl_IsProblem.f k mv sv = some (decide (GoodP mv sv)) := by
  simp only [impl_IsProblem.f, impl_IsProblem.B, within_eq, impl_Problem_metric.f, impl_Problem_metric.B, metric_eq hk h1, Option.bind_some]
  by_cases a1 : 1 ≤ (mv.length : Int) ∧ (mv.length : Int) ≤ 4
  · rw [badRows_eq hk a1.1 h2]
    by_cases a2 : MetP mv
    · by_cases a3 : 1 ≤ (sv.length : Int) ∧ (sv.length : Int) ≤ 4
      · simp only [a1, a2, a3, decide_true, and_self, Bool.not_true, cond_false, Option.bind_some]
        have : (sv.any fun r => !reqP mv.length r) = !(sv.all fun r => reqP mv.length r) := by rw [List.not_all_eq_any_not]
        rw [this, Bool.not_not]
        congr 1
        rw [Bool.eq_iff_iff, List.all_eq_true, decide_eq_true_iff]
        exact ⟨fun h => ⟨by omega, a2, by omega, h⟩, fun h => h.2.2.2⟩
      · have : decide (GoodP mv sv) = false := decide_eq_false fun h => a3 (by have := h.2.2.1; omega)
        simp [a1, a2, a3, this]
    · have : decide (GoodP mv sv) = false := decide_eq_false fun h => a2 h.2.1
      simp [a1, a2, this]
  · have : decide (GoodP mv sv) = false := decide_eq_false fun h => a1 (by have := h.1; omega)
    simp [a1, this]

open Classical in
theorem problemS_eq (hk : 2000000 ≤ k) (h1 : Mx mv) (h2 : Mx sv) : spec_l8Good.f k mv sv = some (decide (GoodP mv sv)) := by
  simp only [spec_l8Good.f, spec_l8Good.B, in_eq, good6_eq hk h1, Option.bind_some]
  have hl := h2.1
  have loop : (spec_l8Good.bs k k) 0 mv sv = some (sv.all fun r => reqP mv.length r) := by
    have := allLoop (L := fun f i => (spec_l8Good.bs k f) i mv sv) (l := sv) (d := []) (p := fun r => reqP mv.length r) (fun f i h0 hi => ?_) (fun f i h => ?_) sv.length k 0 (by omega) (by omega) (by omega)
    · simpa using this
    · have hr := (h2.2 _ (getD_mem (d := []) h0 hi)).1
      simp only [spec_l8Good.bs, spec_l8Good.B4, h0, hi, decide_true, cond_true, and_self, if_true]
      rw [request_eq hk (by omega), w64_id (n := i + 1) (by omega) (by omega)]
      rfl
    · have : ¬ i < (sv.length : Int) := by omega
      simp only [spec_l8Good.bs, spec_l8Good.B4, this, decide_false, cond_false]
  rw [loop]
  by_cases a1 : 1 ≤ (mv.length : Int) ∧ (mv.length : Int) ≤ 4
  · by_cases a2 : MetP mv
    · by_cases a3 : 1 ≤ (sv.length : Int) ∧ (sv.length : Int) ≤ 4
      · simp only [a1, a2, a3, decide_true, and_self, Bool.not_true, cond_false]
        congr 1
        rw [Bool.eq_iff_iff, List.all_eq_true, decide_eq_true_iff]
        exact ⟨fun h => ⟨by omega, a2, by omega, h⟩, fun h => h.2.2.2⟩
      · have : decide (GoodP mv sv) = false := decide_eq_false fun h => a3 (by have := h.2.2.1; omega)
        simp [a1, a2, a3, this]
    · have : decide (GoodP mv sv) = false := decide_eq_false fun h => a2 h.2.1
      simp [a1, a2, this]
  · have : decide (GoodP mv sv) = false := decide_eq_false fun h => a1 (by have := h.1; omega)
    simp [a1, this]

/-- a problem, a state and requests that are valid -/
def StartP (mv sv : List (List Int)) (st : Int) (l : List Int) : Prop := GoodP mv sv ∧ (0 ≤ st ∧ st < (mv.length : Int)) ∧ l.length ≤ 60 ∧ ∀ x ∈ l, 0 ≤ x ∧ x < (sv.length : Int)

open Classical in
theorem started_eq (hk : 2000000 ≤ k) (h1 : Mx mv) (h2 : Mx sv) {st : Int} {l : List Int} (hl : l.length ≤ 100000) : impl_isStarted.f k mv sv st l = some (decide (StartP mv sv st l)) := by
  have n1 := h1.1
  have n2 := h2.1
  simp only [impl_isStarted.f, impl_isStarted.B, problemI_eq hk h1 h2, impl_Problem_isState.f, impl_Problem_isState.B, within_eq, impl_Problem_isSequence.f, impl_Problem_isSequence.B,
    below_eq hk (l := l) (n := sv.length) (by omega) (by omega), Option.bind_some]
  rw [w64_id (n := (mv.length : Int) - 1) (by omega) (by omega)]
  by_cases a1 : GoodP mv sv
  · by_cases a2 : 0 ≤ st ∧ st ≤ (mv.length : Int) - 1
    · by_cases a3 : (l.length : Int) ≤ 60
      · simp only [a1, a2, a3, decide_true, and_self, cond_true, Option.bind_some]
        congr 1
        rw [Bool.eq_iff_iff, List.all_eq_true, decide_eq_true_iff]
        exact ⟨fun h => ⟨a1, by omega, by omega, fun x hx => by have := h x hx; simp at this; omega⟩, fun h x hx => by have := h.2.2.2 x hx; simp; omega⟩
      · have : decide (StartP mv sv st l) = false := decide_eq_false fun h => a3 (by have := h.2.2.1; omega)
        simp [a1, a2, a3, this]
    · have : decide (StartP mv sv st l) = false := decide_eq_false fun h => a2 (by have := h.2.1; omega)
      simp [a1, a2, this]
  · have : decide (StartP mv sv st l) = false := decide_eq_false fun h => a1 h.1
    simp [a1, this]

open Classical in
theorem takes_eq (hk : 2000000 ≤ k) (h1 : Mx mv) (h2 : Mx sv) {st : Int} {l : List Int} (hl : l.length ≤ 100000) : spec_l8Takes.f k mv sv st l = some (decide (StartP mv sv st l)) := by
  have n1 := h1.1
  have n2 := h2.1
  simp only [spec_l8Takes.f, spec_l8Takes.B, problemS_eq hk h1 h2, in_eq, Option.bind_some]
  have loop : (spec_l8Takes.bs k k) l 0 mv sv = some (l.all fun x => decide (0 ≤ x ∧ x ≤ (sv.length : Int) - 1)) := by
    have := allLoop (L := fun f i => (spec_l8Takes.bs k f) l i mv sv) (l := l) (d := 0) (p := fun x => decide (0 ≤ x ∧ x ≤ (sv.length : Int) - 1)) (fun f i h0 hi => ?_) (fun f i h => ?_) l.length k 0 (by omega) (by omega) (by omega)
    · simpa using this
    · simp only [spec_l8Takes.bs, spec_l8Takes.B4, h0, hi, decide_true, cond_true, and_self, if_true, in_eq, Option.bind_some]
      rw [w64_id (n := i + 1) (by omega) (by omega), w64_id (n := (sv.length : Int) - 1) (by omega) (by omega)]
    · have : ¬ i < (l.length : Int) := by omega
      simp only [spec_l8Takes.bs, spec_l8Takes.B4, this, decide_false, cond_false]
  rw [loop, w64_id (n := (mv.length : Int) - 1) (by omega) (by omega)]
  by_cases a1 : GoodP mv sv
  · by_cases a2 : 0 ≤ st ∧ st ≤ (mv.length : Int) - 1
    · by_cases a3 : (60 : Int) < l.length
      · have : decide (StartP mv sv st l) = false := decide_eq_false fun h => by have := h.2.2.1; omega
        simp [a1, a2, a3, this]
      · simp only [a1, a2, a3, decide_true, decide_false, and_self, Bool.not_true, cond_false]
        congr 1
        rw [Bool.eq_iff_iff, List.all_eq_true, decide_eq_true_iff]
        exact ⟨fun h => ⟨a1, by omega, by omega, fun x hx => by have := h x hx; simp at this; omega⟩, fun h x hx => by have := h.2.2.2 x hx; simp; omega⟩
    · have : decide (StartP mv sv st l) = false := decide_eq_false fun h => a2 (by have := h.2.1; omega)
      simp [a1, a2, this]
  · have : decide (StartP mv sv st l) = false := decide_eq_false fun h => a1 h.1
    simp [a1, this]
end
end Go.Proofs.YtobfbgmglopdhaaGreat
namespace Go.Proofs.YtobfbgmglopdhaaGreat
open Ab Pl

section
variable {k : Nat}

/-- numbers from 0 to a bound -/
def Nn (B : Int) (l : List Int) : Prop := ∀ x ∈ l, 0 ≤ x ∧ x ≤ B
theorem Nn.sum {B : Int} {l : List Int} (h : Nn B l) : 0 ≤ l.sum ∧ l.sum ≤ B * l.length := by
  induction l with
  | nil => simp
  | cons x l ih =>
    have h1 := h x (by simp)
    have h2 := ih fun y hy => h y (List.mem_cons_of_mem _ hy)
    rw [List.sum_cons, List.length_cons]
    have e : B * ((l.length + 1 : Nat) : Int) = B * l.length + B := by rw [Int.natCast_add, Int.mul_add]; simp
    omega

/-- a sum by a loop -/
theorem sumLoop {L : Nat → Int → Int → Option Int} {l : List Int} (hl : l.length ≤ 1000000) (hb : Nn 1000000 l)
    (hL : ∀ f s i, 0 ≤ i → i < (l.length : Int) → L (f + 1) s i = L f (w64 (s + l.getD i.toNat 0)) (i + 1)) (hE : ∀ f s i, (l.length : Int) ≤ i → L (f + 1) s i = some s) :
    ∀ (m f : Nat) (s i : Int), m + 1 ≤ f → i + m = l.length → 0 ≤ i → 0 ≤ s → s ≤ 1000000 * i → L f s i = some (s + (l.drop i.toNat).sum) := by
  intro m
  induction m with
  | zero =>
    intro f s i hf hi h0 hs hs'
    obtain ⟨f, rfl⟩ : ∃ g, f = g + 1 := ⟨f - 1, by omega⟩
    rw [hE f s i (by omega), drop_end (by omega)]; simp
  | succ m ih =>
    intro f s i hf hi h0 hs hs'
    obtain ⟨f, rfl⟩ : ∃ g, f = g + 1 := ⟨f - 1, by omega⟩
    have hx := hb _ (getD_mem (d := 0) h0 (show i < (l.length : Int) by omega))
    rw [hL f s i h0 (by omega), drop_at (d := 0) h0 (by omega), List.sum_cons, w64_id (by omega) (by omega), ih f _ (i + 1) (by omega) (by omega) (by omega) (by omega) (by omega)]
    congr 1; omega

theorem total_eq (hk : 2000000 ≤ k) {l : List Int} (hl : l.length ≤ 1000000) (hb : Nn 1000000 l) : impl_total.f k l = some l.sum := by
  simp only [impl_total.f, impl_total.B]
  have := sumLoop (L := fun f s i => impl_total.bs k f s l l.length i) hl hb (fun f s i h0 h1 => ?_) (fun f s i h => ?_) l.length k 0 0 (by omega) (by omega) (by omega) (by omega) (by omega)
  · simpa using this
  · simp only [impl_total.bs, impl_total.B3, h0, h1, decide_true, cond_true, and_self, if_true]
    rw [w64_id (n := i + 1) (by omega) (by omega)]
  · have : ¬ i < (l.length : Int) := by omega
    simp only [impl_total.bs, impl_total.B3, this, decide_false, cond_false]

theorem sumS_eq (hk : 2000000 ≤ k) {l : List Int} (hl : l.length ≤ 1000000) (hb : Nn 1000000 l) : spec_l11Sum.f k l = some l.sum := by
  simp only [spec_l11Sum.f, spec_l11Sum.B]
  have := sumLoop (L := fun f s i => spec_l11Sum.bs k f l s i) hl hb (fun f s i h0 h1 => ?_) (fun f s i h => ?_) l.length k 0 0 (by omega) (by omega) (by omega) (by omega) (by omega)
  · simpa using this
  · simp only [spec_l11Sum.bs, spec_l11Sum.B3, h0, h1, decide_true, cond_true, and_self, if_true]
    rw [w64_id (n := i + 1) (by omega) (by omega)]
  · have : ¬ i < (l.length : Int) := by omega
    simp only [spec_l11Sum.bs, spec_l11Sum.B3, this, decide_false, cond_false]

theorem size_eq (n : Int) : impl_size.f n = some (max n (w64 (0 - n))) := rfl
theorem abs_eq (n : Int) : spec_l2Abs.f n = some (max n (w64 (0 - n))) := by simp only [spec_l2Abs.f, spec_l2Abs.B, most_eq, Option.bind_some]
theorem gcd_bs : ∀ n, spec_l2Gcd.bs k n = impl_divisor.bs k n
  | 0 => rfl
  | n + 1 => by
    funext a b
    simp only [spec_l2Gcd.bs, impl_divisor.bs, spec_l2Gcd.B1, impl_divisor.B1, gcd_bs n]
theorem gcd_eq (a b : Int) : spec_l2Gcd.f k a b = impl_divisor.f k a b := by
  simp only [spec_l2Gcd.f, impl_divisor.f, spec_l2Gcd.B, impl_divisor.B, gcd_bs]
theorem good2_eq (a b : Int) : spec_l2Good.f k a b = impl_IsFrac.f k a b := by
  simp only [spec_l2Good.f, impl_IsFrac.f, spec_l2Good.B, impl_IsFrac.B, in_eq, within_eq, abs_eq, size_eq, gcd_eq]
theorem make_eq (a b : Int) : spec_l2Make.f k a b = impl_makeFrac.f k a b := by
  simp only [spec_l2Make.f, impl_makeFrac.f, spec_l2Make.B, impl_makeFrac.B, abs_eq, size_eq, gcd_eq, good2_eq]

/-- a greatest common divisor comes -/
theorem divisor_ok : ∀ (m f : Nat) (a b : Int), b ≤ m → m + 1 ≤ f → 0 ≤ a → 0 ≤ b → (0 < a ∨ 0 < b) → OK (impl_divisor.bs k f a b) fun r => 0 < r := by
  intro m
  induction m with
  | zero =>
    intro f a b hb hf h0 h1 h2
    obtain ⟨f, rfl⟩ : ∃ g, f = g + 1 := ⟨f - 1, by omega⟩
    simp only [impl_divisor.bs, impl_divisor.B1]
    exact OK.bif (fun h => by omega) fun _ => OK.ret (by omega)
  | succ m ih =>
    intro f a b hb hf h0 h1 h2
    obtain ⟨f, rfl⟩ : ∃ g, f = g + 1 := ⟨f - 1, by omega⟩
    simp only [impl_divisor.bs, impl_divisor.B1]
    refine OK.bif (fun h => OK.req (by omega) ?_) fun h => OK.ret (by omega)
    have l1 := Int.tmod_nonneg b h0
    have l2 := Int.tmod_lt_of_pos a h
    exact ih f b _ (by omega) (by omega) (by omega) l1 (.inl h)

theorem isFrac_ok (hk : 2000000 ≤ k) (a b : Int) : OK (impl_IsFrac.f k a b) fun _ => True := by
  simp only [impl_IsFrac.f, impl_IsFrac.B, within_eq, size_eq, Option.bind_some]
  refine OK.bif (fun h => OK.bif (fun h' => ?_) fun _ => OK.ret trivial) fun _ => OK.ret trivial
  rw [w64_id (n := 0 - a) (by omega) (by omega)]
  exact OK.bind (divisor_ok 1000000 k _ b (by omega) (by omega) (by omega) (by omega) (by omega)) fun r _ => OK.ret trivial

theorem make_ok (hk : 2000000 ≤ k) {a b : Int} (ha : 0 ≤ a ∧ a ≤ 1000000000000000) (hb : 1 ≤ b ∧ b ≤ 1000000) : ∃ r, impl_makeFrac.f k a b = some r := by
  have : OK (impl_makeFrac.f k a b) fun _ => True := by
    simp only [impl_makeFrac.f, impl_makeFrac.B, size_eq, Option.bind_some]
    rw [w64_id (n := 0 - a) (by omega) (by omega)]
    refine OK.bind (divisor_ok 1000000 k _ b (by omega) (by omega) (by omega) (by omega) (by omega)) fun r hr => ?_
    refine OK.req (by omega) (OK.req (by omega) (OK.bind (isFrac_ok hk _ _) fun t _ => ?_))
    exact OK.bifn (fun _ => OK.ret trivial) fun _ => OK.ret trivial
  obtain ⟨r, h, _⟩ := this
  exact ⟨r, h⟩
end

/-- the states in which a request is served -/
def srv (sv : List (List Int)) (r : Int) : List Int := ((List.range (sv.getD r.toNat []).length).map fun n : Nat => (n : Int)).filter fun s => decide (0 ≤ ce sv r s)

section
variable {k : Nat} {mv sv : List (List Int)}

theorem served_eq (hk : 2000000 ≤ k) (h2 : Mx sv) {r : Int} (hr : 0 ≤ r ∧ r < (sv.length : Int)) : impl_Problem_served.f k mv sv r = some (srv sv r) := by
  simp only [impl_Problem_served.f, impl_Problem_served.B]
  rw [if_pos hr]
  have hl := (h2.2 _ (getD_mem (d := []) hr.1 hr.2)).1
  have hce : ∀ s, ce sv r s = (sv.getD r.toNat []).getD s.toNat 0 := fun s => rfl
  unfold srv
  simp only [hce]
  generalize sv.getD r.toNat [] = row at hl
  have main : ∀ (d f : Nat) (i : Nat) (out : List Int), d + 1 ≤ f → i + d = row.length → out.length ≤ i → impl_Problem_served.bs k f row row.length i out =
      some (out ++ ((List.range' i d).map fun n : Nat => (n : Int)).filter fun s => decide (0 ≤ row.getD s.toNat 0)) := by
    intro d
    induction d with
    | zero =>
      intro f i out hf hi ho
      obtain ⟨f, rfl⟩ : ∃ g, f = g + 1 := ⟨f - 1, by omega⟩
      simp only [impl_Problem_served.bs, impl_Problem_served.B3]
      have : ¬ (i : Int) < row.length := by omega
      simp [this]
    | succ d ih =>
      intro f i out hf hi ho
      obtain ⟨f, rfl⟩ : ∃ g, f = g + 1 := ⟨f - 1, by omega⟩
      simp only [impl_Problem_served.bs, impl_Problem_served.B3]
      have h1 : (i : Int) < row.length := by omega
      have h0 : (0 : Int) ≤ i := by omega
      have h3 : out.length + 1 ≤ capB := by rw [capB_eq]; omega
      rw [w64_id (n := (i : Int) + 1) (by omega) (by omega)]
      simp only [h1, h0, h3, decide_true, cond_true, and_self, if_true]
      rw [show (i : Int) + 1 = ((i + 1 : Nat) : Int) by omega, ih f (i + 1) _ (by omega) (by omega) (by simp; omega), ih f (i + 1) _ (by omega) (by omega) (by omega)]
      rw [List.range'_succ, List.map_cons, List.filter_cons]
      cases decide (0 ≤ row.getD (i : Int).toNat 0) <;> simp
  have := main row.length k 0 [] (by omega) (by omega) (by simp)
  rw [List.range_eq_range']
  simpa using this

theorem srv_mem {r s : Int} (h : s ∈ srv sv r) : 0 ≤ s ∧ s < ((sv.getD r.toNat []).length : Int) ∧ 0 ≤ ce sv r s := by
  unfold srv at h
  rw [List.mem_filter, List.mem_map] at h
  obtain ⟨⟨n, hn, rfl⟩, h2⟩ := h
  rw [List.mem_range] at hn
  exact ⟨by omega, by omega, by simpa using h2⟩

theorem GoodP.row (hg : GoodP mv sv) {r : Int} (hr : 0 ≤ r ∧ r < (sv.length : Int)) : ((sv.getD r.toNat []).length : Int) = mv.length ∧ srv sv r ≠ [] ∧ ∀ s, ce sv r s ≤ 20 := by
  have h := hg.2.2.2 _ (getD_mem (d := []) hr.1 hr.2)
  simp only [reqP, Bool.and_eq_true, decide_eq_true_eq, List.all_eq_true, List.any_eq_true] at h
  obtain ⟨h1, h2, x, h3, h4⟩ := h
  refine ⟨h2, fun e => ?_, fun s => ?_⟩
  · obtain ⟨n, hn, rfl⟩ := List.getElem_of_mem h3
    have : ((n : Nat) : Int) ∈ srv sv r := by
      unfold srv
      rw [List.mem_filter, List.mem_map]
      refine ⟨⟨n, by rw [List.mem_range]; exact hn, rfl⟩, ?_⟩
      have : ce sv r n = (sv.getD r.toNat [])[n] := by
        show (sv.getD r.toNat []).getD ((n : Int).toNat) 0 = _
        generalize sv.getD r.toNat [] = row at hn
        simp [List.getD, List.getElem?_eq_getElem hn]
      rw [this]; simpa using h4
    rw [e] at this; simp at this
  · show (sv.getD r.toNat []).getD s.toNat 0 ≤ 20
    generalize sv.getD r.toNat [] = row at h1
    by_cases hs : s.toNat < row.length
    · simp only [List.getD, List.getElem?_eq_getElem hs, Option.getD_some]
      have := h1 _ (List.getElem_mem hs); omega
    · simp [List.getD, List.getElem?_eq_none (Nat.le_of_not_lt hs)]

/-- what a request costs -/
def co (mv sv : List (List Int)) (a b r : Int) : Int := ce mv a b + ce sv r b

theorem GoodP.sq (hg : GoodP mv sv) : SqP mv := hg.2.1.1.1
theorem GoodP.mvb (hg : GoodP mv sv) {a b : Int} (ha : 0 ≤ a ∧ a < (mv.length : Int)) (hb : 0 ≤ b ∧ b < (mv.length : Int)) : 0 ≤ ce mv a b ∧ ce mv a b ≤ 99 := by
  have h := hg.2.1.1.2 a b ha.1 ha.2 hb.1 hb.2
  unfold CellOK at h
  by_cases e : a = b
  · have := h.2.1 e; omega
  · have := h.2.2 e; omega
theorem GoodP.srv (hg : GoodP mv sv) {r s : Int} (hr : 0 ≤ r ∧ r < (sv.length : Int)) (hs : s ∈ srv sv r) : (0 ≤ s ∧ s < (mv.length : Int)) ∧ 0 ≤ ce sv r s := by
  have h1 := srv_mem hs
  have h2 := (hg.row hr).1
  omega
theorem GoodP.co (hg : GoodP mv sv) {a b r : Int} (ha : 0 ≤ a ∧ a < (mv.length : Int)) (hr : 0 ≤ r ∧ r < (sv.length : Int)) (hb : b ∈ YtobfbgmglopdhaaGreat.srv sv r) : 0 ≤ co mv sv a b r ∧ co mv sv a b r ≤ 119 := by
  have h1 := hg.srv hr hb
  have h2 := hg.mvb ha h1.1
  have h3 := (hg.row hr).2.2 b
  unfold YtobfbgmglopdhaaGreat.co
  omega

theorem cost_eq (hg : GoodP mv sv) {a b r : Int} (ha : 0 ≤ a ∧ a < (mv.length : Int)) (hr : 0 ≤ r ∧ r < (sv.length : Int)) (hb : b ∈ srv sv r) : impl_Problem_cost.f mv sv a b r = some (co mv sv a b r) := by
  have h1 := hg.srv hr hb
  have h2 := hg.sq.row ha.1 ha.2
  have h3 := (hg.row hr).1
  have h4 := hg.co ha hr hb
  simp only [impl_Problem_cost.f, impl_Problem_cost.B]
  rw [if_pos ha, if_pos (by omega), if_pos hr, if_pos (by omega)]
  have e : (mv.getD a.toNat []).getD b.toNat 0 + (sv.getD r.toNat []).getD b.toNat 0 = co mv sv a b r := rfl
  rw [e, w64_id (by omega) (by omega)]
end
end Go.Proofs.YtobfbgmglopdhaaGreat
namespace Go.Proofs.YtobfbgmglopdhaaGreat
open Ab Pl

theorem mulbd {x y A B : Int} (hx : 0 ≤ x ∧ x ≤ A) (hy : 0 ≤ y ∧ y ≤ B) : 0 ≤ x * y ∧ x * y ≤ A * B :=
  ⟨Int.mul_nonneg hx.1 hy.1, Int.mul_le_mul hx.2 hy.2 hy.1 (by omega)⟩

theorem foldl_min_mem : ∀ (l : List Int) (x : Int), l.foldl min x = x ∨ l.foldl min x ∈ l
  | [], x => .inl rfl
  | y :: l, x => by
    rw [List.foldl_cons]
    rcases foldl_min_mem l (min x y) with h | h
    · rcases Int.le_total x y with h' | h'
      · left; rw [h]; omega
      · right; rw [h, show min x y = y by omega]; simp
    · right; exact List.mem_cons_of_mem _ h
theorem minL_mem {l : List Int} (h : l ≠ []) : minL l ∈ l := by
  cases l with
  | nil => exact absurd rfl h
  | cons x l =>
    show l.foldl min x ∈ x :: l
    rcases foldl_min_mem l x with h | h
    · rw [h]; simp
    · exact List.mem_cons_of_mem _ h
theorem foldl_min_big {l : List Int} {B : Int} (h : l ≠ []) (hb : ∀ x ∈ l, x ≤ B) : l.foldl min B = minL l := by
  cases l with
  | nil => exact absurd rfl h
  | cons x l =>
    show l.foldl min (min B x) = l.foldl min x
    have := hb x (by simp)
    rw [show min B x = x by omega]

/-- the least sum over the states that serve a request -/
def best (sv : List (List Int)) (r : Int) (g : Int → Int) : Int := minL ((srv sv r).map g)
theorem best_bd {sv : List (List Int)} {r : Int} {g : Int → Int} {lo hi : Int} (h : srv sv r ≠ []) (hb : ∀ s ∈ srv sv r, lo ≤ g s ∧ g s ≤ hi) : lo ≤ best sv r g ∧ best sv r g ≤ hi := by
  have : minL ((srv sv r).map g) ∈ (srv sv r).map g := minL_mem (by simpa using h)
  obtain ⟨s, hs, e⟩ := List.mem_map.1 this
  unfold best
  rw [← e]; exact hb s hs
theorem best_congr {sv : List (List Int)} {r : Int} {g g' : Int → Int} (h : ∀ s ∈ srv sv r, g s = g' s) : best sv r g = best sv r g' := by
  unfold best; rw [List.map_congr_left h]

/-- numbers from 0 on -/
def idx (n : Nat) : List Int := (List.range n).map fun i : Nat => (i : Int)
theorem idx_mem {n : Nat} {x : Int} : x ∈ idx n ↔ 0 ≤ x ∧ x < (n : Int) := by
  unfold idx
  rw [List.mem_map]
  constructor
  · rintro ⟨i, hi, rfl⟩; rw [List.mem_range] at hi; omega
  · rintro ⟨h0, h1⟩; exact ⟨x.toNat, by rw [List.mem_range]; omega, by omega⟩
theorem idx_succ (n : Nat) : idx (n + 1) = idx n ++ [(n : Int)] := by unfold idx; rw [List.range_succ, List.map_append]; rfl
theorem idx_len (n : Nat) : (idx n).length = n := by simp [idx]
theorem idx_get {n : Nat} {α : Type} {f : Int → α} {d : α} {i : Int} (h0 : 0 ≤ i) (h : i < (n : Int)) : ((idx n).map f).getD i.toNat d = f i := by
  have hi : i.toNat < n := by omega
  have h2 : i.toNat < ((idx n).map f).length := by simp [idx_len]; omega
  simp only [List.getD, List.getElem?_eq_getElem h2, Option.getD_some, List.getElem_map]
  congr 1
  simp only [idx, List.getElem_map, List.getElem_range]; omega

/-- the least expected costs of so many requests, times the scale -/
def FI (mv sv : List (List Int)) (ws : List Int) : Nat → Int → Int
  | 0, _ => 0
  | L + 1, a => ((idx sv.length).map fun r => ws.getD r.toNat 0 * best sv r fun b => ws.sum ^ L * co mv sv a b r + FI mv sv ws L b).sum

section
variable {mv sv : List (List Int)} {ws : List Int}

structure WsP (sv : List (List Int)) (ws : List Int) : Prop where
  len : ws.length = sv.length
  nn : Nn 9 ws

theorem WsP.get (h : WsP sv ws) (n : Nat) : 0 ≤ ws.getD n 0 ∧ ws.getD n 0 ≤ 9 := by
  by_cases hn : n < ws.length
  · simp only [List.getD, List.getElem?_eq_getElem hn, Option.getD_some]; exact h.nn _ (List.getElem_mem hn)
  · simp [List.getD, List.getElem?_eq_none (Nat.le_of_not_lt hn)]
theorem WsP.sum (hg : GoodP mv sv) (h : WsP sv ws) : 0 ≤ ws.sum ∧ ws.sum ≤ 36 := by
  have h1 := h.nn.sum
  have h2 := hg.2.2.1
  have h3 := h.len
  omega
theorem pow_bd {T : Int} (h : 0 ≤ T ∧ T ≤ 36) {L : Nat} (hL : L ≤ 3) : 0 ≤ T ^ L ∧ T ^ L ≤ 46656 := by
  have h1 := mulbd h h
  have h2 := mulbd h1 h
  have : L = 0 ∨ L = 1 ∨ L = 2 ∨ L = 3 := by omega
  rcases this with e | e | e | e <;> subst e
  · rw [Int.pow_zero]; omega
  · rw [Int.pow_succ, Int.pow_zero, Int.one_mul]; omega
  · rw [Int.pow_succ, Int.pow_succ, Int.pow_zero, Int.one_mul]; omega
  · rw [Int.pow_succ, Int.pow_succ, Int.pow_succ, Int.pow_zero, Int.one_mul]; omega

theorem FI_step (hg : GoodP mv sv) (hw : WsP sv ws) {L : Nat} {M : Int} (hL : L ≤ 3) (h : ∀ a, 0 ≤ a → a < (mv.length : Int) → 0 ≤ FI mv sv ws L a ∧ FI mv sv ws L a ≤ M) :
    ∀ a, 0 ≤ a → a < (mv.length : Int) → 0 ≤ FI mv sv ws (L + 1) a ∧ FI mv sv ws (L + 1) a ≤ 36 * (5552064 + M) := by
  intro a ha0 ha
  have hT := hw.sum hg
  have hp := pow_bd hT hL
  have hM : 0 ≤ M := by have := h a ha0 ha; omega
  have hb : Nn (9 * (5552064 + M)) ((idx sv.length).map fun r => ws.getD r.toNat 0 * best sv r fun b => ws.sum ^ L * co mv sv a b r + FI mv sv ws L b) := by
    intro x hx
    obtain ⟨r, hr, rfl⟩ := List.mem_map.1 hx
    rw [idx_mem] at hr
    refine mulbd (hw.get _) (best_bd (hg.row hr).2.1 fun b hb => ?_)
    have h1 := hg.srv hr hb
    have h2 := mulbd hp (hg.co ⟨ha0, ha⟩ hr hb)
    have h3 := h b h1.1.1 h1.1.2
    omega
  have h1 := hb.sum
  rw [List.length_map, idx_len] at h1
  have h2 := hg.2.2.1
  simp only [FI]
  refine ⟨h1.1, Int.le_trans h1.2 ?_⟩
  have : 9 * (5552064 + M) * (sv.length : Int) ≤ 9 * (5552064 + M) * 4 := Int.mul_le_mul_of_nonneg_left (by omega) (by omega)
  omega

theorem FI_bd (hg : GoodP mv sv) (hw : WsP sv ws) {L : Nat} (hL : L ≤ 3) : ∀ a, 0 ≤ a → a < (mv.length : Int) → 0 ≤ FI mv sv ws L a ∧ FI mv sv ws L a ≤ 1000000000000 := by
  have h0 : ∀ a, 0 ≤ a → a < (mv.length : Int) → 0 ≤ FI mv sv ws 0 a ∧ FI mv sv ws 0 a ≤ 0 := fun a _ _ => by simp [FI]
  have h1 : ∀ a, 0 ≤ a → a < (mv.length : Int) → 0 ≤ FI mv sv ws 1 a ∧ FI mv sv ws 1 a ≤ 199874304 := FI_step hg hw (by omega) h0
  have h2 : ∀ a, 0 ≤ a → a < (mv.length : Int) → 0 ≤ FI mv sv ws 2 a ∧ FI mv sv ws 2 a ≤ 7395349248 := FI_step hg hw (by omega) h1
  have h3 : ∀ a, 0 ≤ a → a < (mv.length : Int) → 0 ≤ FI mv sv ws 3 a ∧ FI mv sv ws 3 a ≤ 266432447232 := FI_step hg hw (by omega) h2
  have : L = 0 ∨ L = 1 ∨ L = 2 ∨ L = 3 := by omega
  intro a ha ha'
  rcases this with e | e | e | e <;> subst e
  · have := h0 a ha ha'; omega
  · have := h1 a ha ha'; omega
  · have := h2 a ha ha'; omega
  · have := h3 a ha ha'; omega

section
variable {k : Nat} {Q : Int × Int × Bool → Prop} {st len : Int} {y0 y1 : List (List Int)}

/-- a part of the next sums -/
def part (mv sv : List (List Int)) (ws : List Int) (L : Nat) (a : Int) (n : Nat) : Int := ((idx n).map fun r => ws.getD r.toNat 0 * best sv r fun b => ws.sum ^ L * co mv sv a b r + FI mv sv ws L b).sum
theorem part_succ (L : Nat) (a : Int) (n : Nat) : part mv sv ws L a (n + 1) = part mv sv ws L a n + ws.getD n 0 * best sv n fun b => ws.sum ^ L * co mv sv a b n + FI mv sv ws L b := by
  simp only [part, idx_succ, List.map_append, List.sum_append, List.map_cons, List.map_nil, List.sum_cons, List.sum_nil, Int.add_zero, Int.toNat_natCast]
theorem part_bd (hg : GoodP mv sv) (hw : WsP sv ws) {L : Nat} (hL : L ≤ 2) {a : Int} (ha : 0 ≤ a ∧ a < (mv.length : Int)) {r : Int} (hr : 0 ≤ r ∧ r < (sv.length : Int)) :
    0 ≤ (best sv r fun b => ws.sum ^ L * co mv sv a b r + FI mv sv ws L b) ∧ (best sv r fun b => ws.sum ^ L * co mv sv a b r + FI mv sv ws L b) ≤ 1000010000000 := by
  have hp := pow_bd (hw.sum hg) (L := L) (by omega)
  refine best_bd (hg.row hr).2.1 fun b hb => ?_
  have h1 := hg.srv hr hb
  have h2 := mulbd hp (hg.co ha hr hb)
  have h3 := FI_bd hg hw (L := L) (by omega) b h1.1.1 h1.1.2
  omega

theorem GoodP.srvlen (hg : GoodP mv sv) {r : Int} (hr : 0 ≤ r ∧ r < (sv.length : Int)) : (YtobfbgmglopdhaaGreat.srv sv r).length ≤ 4 := by
  unfold YtobfbgmglopdhaaGreat.srv
  refine Nat.le_trans (List.length_filter_le _ _) ?_
  have h1 := (hg.row hr).1
  have h3 := hg.1
  rw [List.length_map, List.length_range]
  omega

end
end
end Go.Proofs.YtobfbgmglopdhaaGreat
namespace Go.Proofs.YtobfbgmglopdhaaGreat
open Ab Pl

section
variable {mv sv : List (List Int)} {ws : List Int} {k : Nat} {Q : Int × Int × Bool → Prop} {st len : Int}

def nxt (mv sv : List (List Int)) (ws : List Int) (L : Nat) (a : Int) : List Int := (idx mv.length).map fun i => if i < a then FI mv sv ws (L + 1) i else 0

theorem nxt_set {L : Nat} {a : Int} (h0 : 0 ≤ a) (h : a < (mv.length : Int)) : (nxt mv sv ws L a).set a.toNat (FI mv sv ws (L + 1) a) = nxt mv sv ws L (a + 1) := by
  unfold nxt
  refine List.ext_getElem (by simp) fun n h1 h2 => ?_
  rw [List.getElem_set]
  simp only [List.getElem_map, idx, List.getElem_range]
  split
  · rename_i e
    rw [if_pos (by omega), show (n : Int) = a by omega]
  · rename_i e
    by_cases hn : (n : Int) < a
    · rw [if_pos hn, if_pos (by omega)]
    · rw [if_neg hn, if_neg (by omega)]
theorem nxt_zero {L : Nat} {a : Int} (h0 : 0 ≤ a) : (nxt mv sv ws L a).set a.toNat 0 = nxt mv sv ws L a := by
  unfold nxt
  refine List.ext_getElem (by simp) fun n h1 h2 => ?_
  rw [List.getElem_set]
  simp only [List.getElem_map, idx, List.getElem_range]
  split
  · rename_i e
    rw [if_neg (by omega)]
  · rfl
theorem nxt_end {L : Nat} : nxt mv sv ws L mv.length = (idx mv.length).map (FI mv sv ws (L + 1)) := by
  unfold nxt
  refine List.map_congr_left fun x hx => ?_
  rw [idx_mem] at hx
  rw [if_pos hx.2]
theorem nxt_start {L : Nat} : nxt mv sv ws L 0 = List.replicate mv.length 0 := by
  unfold nxt
  refine List.eq_replicate_iff.2 ⟨by simp [idx_len], fun x hx => ?_⟩
  obtain ⟨i, hi, rfl⟩ := List.mem_map.1 hx
  rw [idx_mem] at hi
  rw [if_neg (by omega)]

/-- what IndependentBest asks -/
def IndP (mv sv : List (List Int)) (st : Int) (ws : List Int) (len : Int) : Prop := StartP mv sv st [] ∧ (0 ≤ len ∧ len ≤ 3) ∧ WsP sv ws ∧ ws.sum ≠ 0

theorem allIn {l : List Int} {a b : Int} : (l.all fun c => decide (a ≤ c ∧ c ≤ b)) = true ↔ ∀ x ∈ l, a ≤ x ∧ x ≤ b := by
  rw [List.all_eq_true]; exact ⟨fun h x hx => by simpa using h x hx, fun h x hx => by simpa using h x hx⟩

end
end Go.Proofs.YtobfbgmglopdhaaGreat
namespace Go.Proofs.YtobfbgmglopdhaaGreat
open Ab Pl

section
variable {mv sv : List (List Int)} {ws : List Int} {k : Nat} {Q : Int → Prop}

/-- the least so far, -1 where there is none -/
def upm (m v : Int) : Int := if m < 0 then v else if v < m then v else m
theorem upm_min : ∀ {l : List Int} {x : Int}, 0 ≤ x → (∀ y ∈ l, 0 ≤ y) → l.foldl upm x = l.foldl min x
  | [], x, _, _ => rfl
  | y :: l, x, h0, h => by
    have hy := h y (by simp)
    rw [List.foldl_cons, List.foldl_cons]
    have e : upm x y = min x y := by unfold upm; rw [if_neg (by omega)]; split <;> omega
    rw [e, upm_min (by omega) fun z hz => h z (List.mem_cons_of_mem _ hz)]
theorem upm_minL {l : List Int} (h : l ≠ []) (h0 : ∀ y ∈ l, 0 ≤ y) : l.foldl upm (-1) = minL l := by
  cases l with
  | nil => exact absurd rfl h
  | cons x l =>
    rw [List.foldl_cons]
    have e : upm (-1) x = x := rfl
    rw [e, upm_min (h0 x (by simp)) fun z hz => h0 z (List.mem_cons_of_mem _ hz)]
    rfl

/-- the states from one on in which a request is served -/
def srvF (sv : List (List Int)) (r : Int) (i d : Nat) : List Int := ((List.range' i d).map fun n : Nat => (n : Int)).filter fun s => decide (0 ≤ ce sv r s)
theorem srvF_all (hg : GoodP mv sv) {r : Int} (hr : 0 ≤ r ∧ r < (sv.length : Int)) : srvF sv r 0 mv.length = srv sv r := by
  unfold srvF srv
  have := (hg.row hr).1
  rw [show (sv.getD r.toNat []).length = mv.length by omega, List.range_eq_range']
theorem srvF_succ {r : Int} {i d : Nat} : srvF sv r i (d + 1) = if 0 ≤ ce sv r i then (i : Int) :: srvF sv r (i + 1) d else srvF sv r (i + 1) d := by
  unfold srvF
  rw [List.range'_succ, List.map_cons, List.filter_cons]
  simp
theorem srvF_sub {r : Int} {i d : Nat} {x : Int} (h : x ∈ srvF sv r i d) (hd : i + d ≤ (sv.getD r.toNat []).length) : x ∈ srv sv r := by
  unfold srvF at h
  unfold srv
  rw [List.mem_filter, List.mem_map] at h ⊢
  obtain ⟨⟨n, hn, rfl⟩, h2⟩ := h
  rw [List.mem_range'_1] at hn
  exact ⟨⟨n, by rw [List.mem_range]; omega, rfl⟩, h2⟩

end
end Go.Proofs.YtobfbgmglopdhaaGreat
namespace Go.Proofs.YtobfbgmglopdhaaGreat
open Ab Pl

section
variable {mv sv cs : List (List Int)} {cw : List Int} {k : Nat}

/-- lists that are not too long -/
def Sh (cs : List (List Int)) : Prop := cs.length ≤ 100000 ∧ ∀ q ∈ cs, q.length ≤ 100000

/-- a sequence with chances -/
def SeqP (sv : List (List Int)) (n : Int) (q : List Int) : Prop := q.length ≤ 6 ∧ (q.length : Int) = n ∧ ∀ x ∈ q, 0 ≤ x ∧ x < (sv.length : Int)
/-- chances that are valid -/
def ChP (sv : List (List Int)) (cw : List Int) (cs : List (List Int)) : Prop :=
  (1 ≤ cs.length ∧ cs.length ≤ 12) ∧ cw.length = cs.length ∧ (∀ x ∈ cw, 1 ≤ x ∧ x ≤ 9) ∧ ∀ q ∈ cs, SeqP sv (cs.getD 0 []).length q

open Classical in
theorem chances1_eq (hk : 2000000 ≤ k) (h2 : Mx sv) {q : List Int} (hq : q.length ≤ 100000) (h0 : 0 < cs.length) : impl_Problem_isChances_1.f k q cw cs mv sv = some (decide (¬ SeqP sv (cs.getD 0 []).length q)) := by
  have n2 := h2.1
  simp only [impl_Problem_isChances_1.f, impl_Problem_isChances_1.B]
  by_cases a1 : (6 : Int) < q.length
  · have : ¬ SeqP sv (cs.getD 0 []).length q := fun h => by have := h.1; omega
    simp only [a1, decide_true, cond_true]
    rw [decide_eq_true this]
  · rw [if_pos (by omega)]
    simp only [a1, decide_false, cond_false]
    by_cases a2 : (q.length : Int) = (cs.getD 0 []).length
    · simp only [a2, decide_true, Bool.not_true, cond_false, impl_Problem_isSequence.f, impl_Problem_isSequence.B]
      have a3 : (q.length : Int) ≤ 60 := by omega
      rw [a2] at a3
      simp only [a3, decide_true, cond_true]
      rw [below_eq hk (by omega) (by omega)]
      simp only [Option.bind_some]
      congr 1
      rw [Bool.eq_iff_iff]
      simp only [Bool.not_eq_true', decide_eq_true_iff]
      rw [← Bool.not_eq_true, List.all_eq_true]
      refine not_congr ⟨fun h => ⟨by omega, a2, fun x hx => by have := h x hx; simp at this; omega⟩, fun h x hx => by have := h.2.2 x hx; simp; omega⟩
    · have : ¬ SeqP sv (cs.getD 0 []).length q := fun h => a2 h.2.1
      simp only [a2, decide_false, Bool.not_false, cond_true]
      rw [decide_eq_true this]

open Classical in
theorem chances_eq (hk : 2000000 ≤ k) (h2 : Mx sv) (hc : Sh cs) (hw : cw.length ≤ 100000) : impl_Problem_isChances.f k mv sv cw cs = some (decide (ChP sv cw cs)) := by
  have n1 := hc.1
  simp only [impl_Problem_isChances.f, impl_Problem_isChances.B, within_eq, Option.bind_some, weights_eq hk (l := cw) (n := 1) (by omega)]
  by_cases a1 : 1 ≤ (cs.length : Int) ∧ (cs.length : Int) ≤ 12
  · have e : slices_ContainsFunc_at_Problem_isChances_1.f k cs cw cs mv sv = some (cs.any fun q => decide (¬ SeqP sv (cs.getD 0 []).length q)) := by
      simp only [slices_ContainsFunc_at_Problem_isChances_1.f, slices_ContainsFunc_at_Problem_isChances_1.B, slices_IndexFunc_at_Problem_isChances_1.f, slices_IndexFunc_at_Problem_isChances_1.B]
      refine contains_of (L := fun f i => slices_IndexFunc_at_Problem_isChances_1.bs k f cs cw cs mv sv (cs.length : Int) i) (d := []) hk (by omega) (fun f i h0 h1 => ?_) fun f i h => ?_
      · simp only [slices_IndexFunc_at_Problem_isChances_1.bs, slices_IndexFunc_at_Problem_isChances_1.B2, h0, h1, decide_true, cond_true, and_self, if_true]
        rw [chances1_eq hk h2 (hc.2 _ (getD_mem h0 h1)) (by omega), w64_id (n := i + 1) (by omega) (by omega)]
        rfl
      · have : ¬ i < (cs.length : Int) := by omega
        simp only [slices_IndexFunc_at_Problem_isChances_1.bs, slices_IndexFunc_at_Problem_isChances_1.B2, this, decide_false, cond_false]
    rw [e]
    by_cases a2 : (cw.length : Int) = cs.length
    · cases a3 : (cw.all fun c => decide (1 ≤ c ∧ c ≤ 9)) with
      | true =>
        simp only [a1, a2, decide_true, and_self, Bool.not_true, cond_false, Option.bind_some]
        congr 1
        rw [Bool.eq_iff_iff]
        simp only [Bool.not_eq_true', decide_eq_true_iff]
        rw [List.any_eq_false]
        refine ⟨fun h => ⟨by omega, by omega, allIn.1 a3, fun q hq => by have := h q hq; simpa using this⟩, fun h q hq => by have := h.2.2.2 q hq; simpa using this⟩
      | false =>
        have : ¬ ChP sv cw cs := fun h => by
          have := allIn.2 h.2.2.1
          rw [a3] at this; simp at this
        simp [a1, a2, this]
    · have : ¬ ChP sv cw cs := fun h => a2 (by have := h.2.1; omega)
      simp [a1, a2, this]
  · have : ¬ ChP sv cw cs := fun h => a1 (by have := h.1; omega)
    simp [a1, this]

/-- what BestExpected asks -/
def DrP (mv sv : List (List Int)) (st : Int) (cw : List Int) (cs : List (List Int)) : Prop := StartP mv sv st [] ∧ ChP sv cw cs
open Classical in
theorem drawn_eq (hk : 2000000 ≤ k) (h1 : Mx mv) (h2 : Mx sv) (hc : Sh cs) (hw : cw.length ≤ 100000) {st : Int} : impl_isDrawn.f k mv sv st cw cs = some (decide (DrP mv sv st cw cs)) := by
  simp only [impl_isDrawn.f, impl_isDrawn.B, started_eq hk h1 h2 (l := []) (by simp), chances_eq hk h2 hc hw, Option.bind_some]
  by_cases a1 : StartP mv sv st [] <;> by_cases a2 : ChP sv cw cs <;> simp [DrP, a1, a2]

theorem clone_eq {l : List Int} (hl : l.length ≤ 1000000) : slices_Clone.f l = some l := by
  simp only [slices_Clone.f, slices_Clone.B]
  rw [if_pos (by rw [capB_eq]; omega)]
  cases l with
  | nil => simp [agree]
  | cons x l => simp [agree]

theorem equal_eq (hk : 2000000 ≤ k) {a b : List Int} (hl : a.length ≤ 1000000) : slices_Equal.f k a b = some (decide (a = b)) := by
  simp only [slices_Equal.f, slices_Equal.B]
  by_cases hab : (a.length : Int) = b.length
  · simp only [hab, decide_true, Bool.not_true, cond_false]
    have main : ∀ (d f : Nat) (i : Int), d + 1 ≤ f → i + d = b.length → 0 ≤ i → slices_Equal.bs k f a b b.length i = some (decide (a.drop i.toNat = b.drop i.toNat)) := by
      intro d
      induction d with
      | zero =>
        intro f i hf hi h0
        obtain ⟨f, rfl⟩ : ∃ g, f = g + 1 := ⟨f - 1, by omega⟩
        simp only [slices_Equal.bs, slices_Equal.B4]
        rw [drop_end (l := a) (by omega), drop_end (l := b) (by omega)]
        have : ¬ i < (b.length : Int) := by omega
        simp [this]
      | succ d ih =>
        intro f i hf hi h0
        obtain ⟨f, rfl⟩ : ∃ g, f = g + 1 := ⟨f - 1, by omega⟩
        simp only [slices_Equal.bs, slices_Equal.B4]
        have h1 : i < (b.length : Int) := by omega
        have h2 : i < (a.length : Int) := by omega
        rw [drop_at (l := a) (d := 0) h0 h2, drop_at (l := b) (d := 0) h0 h1, w64_id (n := i + 1) (by omega) (by omega), ih f (i + 1) (by omega) (by omega) (by omega)]
        simp only [h0, h1, h2, decide_true, cond_true, and_self, if_true, List.cons.injEq]
        by_cases hx : a.getD i.toNat 0 = b.getD i.toNat 0
        · rw [hx]; simp
        · simp only [hx, decide_false, Bool.not_false, cond_true, false_and]
    have := main b.length k 0 (by omega) (by omega) (by omega)
    simpa using this
  · have : ¬ a = b := fun e => hab (by rw [e])
    simp [hab, this]

/-- the sum of the weights of the sequences that begin so -/
def Wt (cw : List Int) (cs : List (List Int)) (seen : List Int) : Int := ((cw.zip cs).map fun p => if p.2.take seen.length = seen then p.1 else 0).sum

theorem begin_eq (hk : 2000000 ≤ k) (hc : Sh cs) (hw : cw.length = cs.length) (hb : ∀ x ∈ cw, 0 ≤ x ∧ x ≤ 1000) {seen : List Int} (hs : seen.length ≤ 1000000) : impl_Chances_beginning.f k cw cs seen = some (Wt cw cs seen) := by
  simp only [impl_Chances_beginning.f, impl_Chances_beginning.B]
  have n1 := hc.1
  have main : ∀ (d f : Nat) (i s : Int), d + 1 ≤ f → i + d = cs.length → 0 ≤ i → 0 ≤ s → s ≤ 1000 * i → impl_Chances_beginning.bs k f seen s cs cs.length i cw cs =
      some (s + (((cw.zip cs).drop i.toNat).map fun p => if p.2.take seen.length = seen then p.1 else 0).sum) := by
    intro d
    induction d with
    | zero =>
      intro f i s hf hi h0 hs0 hs1
      obtain ⟨f, rfl⟩ : ∃ g, f = g + 1 := ⟨f - 1, by omega⟩
      simp only [impl_Chances_beginning.bs, impl_Chances_beginning.B3]
      rw [drop_end (by rw [List.length_zip]; omega)]
      have : ¬ i < (cs.length : Int) := by omega
      simp [this]
    | succ d ih =>
      intro f i s hf hi h0 hs0 hs1
      obtain ⟨f, rfl⟩ : ∃ g, f = g + 1 := ⟨f - 1, by omega⟩
      simp only [impl_Chances_beginning.bs, impl_Chances_beginning.B3]
      have h1 : i < (cs.length : Int) := by omega
      have h2 : i < (cw.length : Int) := by omega
      have hq := hc.2 _ (getD_mem (d := []) h0 h1)
      have hx := hb _ (getD_mem (d := 0) h0 h2)
      have hz : (cw.zip cs).getD i.toNat (0, []) = (cw.getD i.toNat 0, cs.getD i.toNat []) := by
        have e1 : i.toNat < cw.length := by omega
        have e2 : i.toNat < cs.length := by omega
        have e3 : i.toNat < (cw.zip cs).length := by rw [List.length_zip]; omega
        simp only [List.getD, List.getElem?_eq_getElem e1, List.getElem?_eq_getElem e2, List.getElem?_eq_getElem e3, Option.getD_some, List.getElem_zip]
      rw [drop_at (l := cw.zip cs) (d := (0, [])) h0 (by rw [List.length_zip]; omega), hz, List.map_cons, List.sum_cons, w64_id (n := i + 1) (by omega) (by omega), w64_id (n := s + _) (by omega) (by omega)]
      simp only [h0, h1, h2, decide_true, cond_true, and_self, if_true, Int.toNat_natCast]
      rw [equal_eq hk (by rw [List.length_take]; omega)]
      simp only [Option.bind_some]
      generalize cs.getD i.toNat [] = q at hq
      generalize cw.getD i.toNat 0 = x at hx
      by_cases hlen : (seen.length : Int) ≤ q.length
      · rw [if_pos ⟨by omega, by omega, hlen⟩]
        simp only [hlen, decide_true, cond_true]
        by_cases he : q.take seen.length = seen
        · simp only [he, decide_true, cond_true, if_true]
          rw [ih f (i + 1) _ (by omega) (by omega) (by omega) (by omega) (by omega)]
          congr 1; omega
        · simp only [he, decide_false, cond_false, if_false]
          rw [ih f (i + 1) _ (by omega) (by omega) (by omega) (by omega) (by omega)]
          congr 1; omega
      · have he : ¬ q.take seen.length = seen := fun e => by
          have := congrArg List.length e
          rw [List.length_take] at this; omega
        simp only [hlen, he, decide_false, cond_false, if_false]
        rw [ih f (i + 1) _ (by omega) (by omega) (by omega) (by omega) (by omega)]
        congr 1; omega
  have := main cs.length k 0 0 (by omega) (by omega) (by omega) (by omega) (by omega)
  simpa [Wt] using this

theorem Wt_bd (hc : ChP sv cw cs) (seen : List Int) : 0 ≤ Wt cw cs seen ∧ Wt cw cs seen ≤ 108 := by
  have : Nn 9 ((cw.zip cs).map fun p => if p.2.take seen.length = seen then p.1 else 0) := by
    intro x hx
    obtain ⟨p, hp, rfl⟩ := List.mem_map.1 hx
    have := hc.2.2.1 p.1 (List.of_mem_zip hp).1
    split <;> omega
  have h := this.sum
  rw [List.length_map, List.length_zip] at h
  have h1 := hc.1
  have h2 := hc.2.1
  unfold Wt
  omega

/-- behind the end of all sequences there is none -/
theorem Wt_end (hc : ChP sv cw cs) {seen : List Int} (h : (cs.getD 0 []).length < seen.length) : Wt cw cs seen = 0 := by
  have : Nn 0 ((cw.zip cs).map fun p => if p.2.take seen.length = seen then p.1 else 0) := by
    intro x hx
    obtain ⟨p, hp, rfl⟩ := List.mem_map.1 hx
    have h1 := (hc.2.2.2 p.2 (List.of_mem_zip hp).2).2.1
    have he : ¬ p.2.take seen.length = seen := fun e => by
      have := congrArg List.length e
      rw [List.length_take] at this; omega
    rw [if_neg he]; omega
  have h := this.sum
  unfold Wt
  omega

/-- the least sum of weights and costs behind what was seen, with so many requests to come -/
def On (mv sv : List (List Int)) (cw : List Int) (cs : List (List Int)) : Nat → Int → List Int → Int
  | 0, _, _ => 0
  | m + 1, a, seen => ((idx sv.length).map fun r => if 0 < Wt cw cs (seen ++ [r]) then best sv r fun b => Wt cw cs (seen ++ [r]) * co mv sv a b r + On mv sv cw cs m b (seen ++ [r]) else 0).sum

/-- the first state with the least value, and this -/
def rp (g : Int → Int) (l : List Int) (p : Int × Int) : Int × Int := l.foldl (fun p b => if g b < p.2 then (b, g b) else p) p
theorem rp_snd (g : Int → Int) : ∀ (l : List Int) (p : Int × Int), (rp g l p).2 = (l.map g).foldl min p.2
  | [], p => rfl
  | b :: l, p => by
    show (rp g l (if g b < p.2 then (b, g b) else p)).2 = (l.map g).foldl min (min p.2 (g b))
    rw [rp_snd g l]
    congr 1
    split
    · show g b = _; omega
    · omega

def OnB : Nat → Int
  | 0 => 0
  | m + 1 => 4 * (12852 + OnB m)
theorem OnB_bd {m : Nat} (h : m ≤ 6) : 0 ≤ OnB m ∧ OnB m ≤ 80000000 := by
  have : m = 0 ∨ m = 1 ∨ m = 2 ∨ m = 3 ∨ m = 4 ∨ m = 5 ∨ m = 6 := by omega
  rcases this with e | e | e | e | e | e | e <;> subst e <;> decide

theorem On_g (hg : GoodP mv sv) (hc : ChP sv cw cs) {m : Nat} (ih : ∀ a seen, 0 ≤ a → a < (mv.length : Int) → 0 ≤ On mv sv cw cs m a seen ∧ On mv sv cw cs m a seen ≤ OnB m) {a r : Int} (ha : 0 ≤ a ∧ a < (mv.length : Int)) (hr : 0 ≤ r ∧ r < (sv.length : Int)) (seen seen' : List Int) :
    ∀ b ∈ srv sv r, 0 ≤ Wt cw cs seen * co mv sv a b r + On mv sv cw cs m b seen' ∧ Wt cw cs seen * co mv sv a b r + On mv sv cw cs m b seen' ≤ 12852 + OnB m := by
  intro b hb
  have h1 := mulbd (Wt_bd hc seen) (hg.co ha hr hb)
  have h2 := hg.srv hr hb
  have h3 := ih b seen' h2.1.1 h2.1.2
  omega

theorem On_bd (hg : GoodP mv sv) (hc : ChP sv cw cs) : ∀ (m : Nat) (a : Int) (seen : List Int), 0 ≤ a → a < (mv.length : Int) → 0 ≤ On mv sv cw cs m a seen ∧ On mv sv cw cs m a seen ≤ OnB m
  | 0, a, seen, _, _ => by simp [On, OnB]
  | m + 1, a, seen, h0, h1 => by
    have ih := On_bd hg hc m
    have hB : 0 ≤ OnB m := by
      have : ∀ m, 0 ≤ OnB m := fun m => by
        induction m with
        | zero => simp [OnB]
        | succ m ih => simp only [OnB]; omega
      exact this m
    have : Nn (12852 + OnB m) ((idx sv.length).map fun r => if 0 < Wt cw cs (seen ++ [r]) then best sv r fun b => Wt cw cs (seen ++ [r]) * co mv sv a b r + On mv sv cw cs m b (seen ++ [r]) else 0) := by
      intro x hx
      obtain ⟨r, hr, rfl⟩ := List.mem_map.1 hx
      rw [idx_mem] at hr
      split
      · exact best_bd (hg.row hr).2.1 (On_g hg hc ih ⟨h0, h1⟩ hr _ _)
      · omega
    have h := this.sum
    rw [List.length_map, idx_len] at h
    have h2 := hg.2.2.1
    have h3 : (12852 + OnB m) * (sv.length : Int) ≤ (12852 + OnB m) * 4 := Int.mul_le_mul_of_nonneg_left (by omega) (by omega)
    simp only [On, OnB]
    omega

variable {seen : List Int}
theorem reply_eq (hk : 2000000 ≤ k) (hg : GoodP mv sv) (h2 : Mx sv) (hsh : Sh cs) (hc : ChP sv cw cs) {m d : Nat} (hm : m ≤ 5) {a r : Int} (ha : 0 ≤ a ∧ a < (mv.length : Int)) (hr : 0 ≤ r ∧ r < (sv.length : Int)) (hs : seen.length ≤ 1000)
    (hon : ∀ b, 0 ≤ b → b < (mv.length : Int) → impl_Problem_onward.f k d mv sv b cw cs (seen ++ [r]) = some (On mv sv cw cs m b (seen ++ [r]))) :
    impl_Problem_reply.f k (d + 1) mv sv a cw cs (seen ++ [r]) = some (rp (fun b => Wt cw cs (seen ++ [r]) * co mv sv a b r + On mv sv cw cs m b (seen ++ [r])) (srv sv r) (-1, 1073741824)) := by
  show impl_Problem_reply.B k (impl_Problem_reply.f k d) (impl_Problem_onward.f k d) (impl_Problem_reply.bs k (impl_Problem_reply.f k d) (impl_Problem_onward.f k d) k) mv sv a cw cs (seen ++ [r]) = _
  simp only [impl_Problem_reply.B]
  rw [begin_eq hk hsh hc.2.1 (fun x hx => by have := hc.2.2.1 x hx; omega) (by simp; omega)]
  have hlen : ((seen ++ [r]).length : Int) = seen.length + 1 := by simp
  have hlast : (seen ++ [r]).getD ((seen.length : Int) + 1 - 1).toNat 0 = r := by
    rw [show ((seen.length : Int) + 1 - 1).toNat = seen.length by omega]
    simp [List.getD]
  simp only [Option.bind_some]
  rw [hlen, w64_id (n := (seen.length : Int) + 1 - 1) (by omega) (by omega), if_pos (by omega), hlast, served_eq hk h2 hr]
  simp only [Option.bind_some]
  have hsrv := hg.srvlen hr
  have hB := OnB_bd (show m ≤ 6 by omega)
  have main : ∀ (e f : Nat) (i : Int) (p : Int × Int), e + 1 ≤ f → i + e = (srv sv r).length → 0 ≤ i →
      impl_Problem_reply.bs k (impl_Problem_reply.f k d) (impl_Problem_onward.f k d) f a (seen ++ [r]) (Wt cw cs (seen ++ [r])) r p.1 p.2 (srv sv r).length i mv sv cw cs (srv sv r) =
        some (rp (fun b => Wt cw cs (seen ++ [r]) * co mv sv a b r + On mv sv cw cs m b (seen ++ [r])) ((srv sv r).drop i.toNat) p) := by
    intro e
    induction e with
    | zero =>
      intro f i p hf hi h0
      obtain ⟨f, rfl⟩ : ∃ g, f = g + 1 := ⟨f - 1, by omega⟩
      simp only [impl_Problem_reply.bs, impl_Problem_reply.B4]
      rw [drop_end (by omega)]
      have : ¬ i < ((srv sv r).length : Int) := by omega
      simp only [this, decide_false, cond_false]
      rfl
    | succ e ih =>
      intro f i p hf hi h0
      obtain ⟨f, rfl⟩ : ∃ g, f = g + 1 := ⟨f - 1, by omega⟩
      simp only [impl_Problem_reply.bs, impl_Problem_reply.B4]
      have h1 : i < ((srv sv r).length : Int) := by omega
      have hb := getD_mem (l := srv sv r) (d := 0) h0 h1
      have hb2 := hg.srv hr hb
      have hv := On_g hg hc (On_bd hg hc m) ha hr (seen ++ [r]) (seen ++ [r]) _ hb
      have hw := mulbd (Wt_bd hc (seen ++ [r])) (hg.co ha hr hb)
      rw [cost_eq hg ha hr hb, hon _ hb2.1.1 hb2.1.2, drop_at (d := 0) h0 h1]
      simp only [Option.bind_some]
      rw [w64_id (n := i + 1) (by omega) (by omega), w64_id (n := Wt cw cs (seen ++ [r]) * _) (by omega) (by omega), w64_id (n := Wt cw cs (seen ++ [r]) * _ + _) (by omega) (by omega)]
      simp only [h0, h1, decide_true, cond_true, and_self, if_true]
      generalize (srv sv r).getD i.toNat 0 = b
      have step : ∀ l, rp (fun b => Wt cw cs (seen ++ [r]) * co mv sv a b r + On mv sv cw cs m b (seen ++ [r])) (b :: l) p =
          rp (fun b => Wt cw cs (seen ++ [r]) * co mv sv a b r + On mv sv cw cs m b (seen ++ [r])) l (if Wt cw cs (seen ++ [r]) * co mv sv a b r + On mv sv cw cs m b (seen ++ [r]) < p.2 then (b, Wt cw cs (seen ++ [r]) * co mv sv a b r + On mv sv cw cs m b (seen ++ [r])) else p) := fun l => rfl
      rw [step]
      by_cases hlt : Wt cw cs (seen ++ [r]) * co mv sv a b r + On mv sv cw cs m b (seen ++ [r]) < p.2
      · simp only [hlt, decide_true, cond_true, if_true]
        exact ih f (i + 1) (b, _) (by omega) (by omega) (by omega)
      · simp only [hlt, decide_false, cond_false, if_false]
        exact ih f (i + 1) p (by omega) (by omega) (by omega)
  have := main (srv sv r).length k 0 (-1, 1073741824) (by omega) (by omega) (by omega)
  simpa using this

theorem rp_best (hg : GoodP mv sv) (hc : ChP sv cw cs) {m : Nat} (hm : m ≤ 5) {a r : Int} (ha : 0 ≤ a ∧ a < (mv.length : Int)) (hr : 0 ≤ r ∧ r < (sv.length : Int)) (s : List Int) :
    (rp (fun b => Wt cw cs s * co mv sv a b r + On mv sv cw cs m b s) (srv sv r) (-1, 1073741824)).2 = best sv r fun b => Wt cw cs s * co mv sv a b r + On mv sv cw cs m b s := by
  rw [rp_snd]
  have hB := OnB_bd (show m ≤ 6 by omega)
  refine foldl_min_big (by simpa using (hg.row hr).2.1) fun x hx => ?_
  obtain ⟨b, hb, rfl⟩ := List.mem_map.1 hx
  have := On_g hg hc (On_bd hg hc m) ha hr s s b hb
  show _ ≤ (1073741824 : Int)
  omega

theorem onward_eq (hk : 2000000 ≤ k) (hg : GoodP mv sv) (h2 : Mx sv) (hsh : Sh cs) (hc : ChP sv cw cs) : ∀ (m : Nat) (d : Nat) (a : Int) (seen : List Int), m ≤ 6 → seen.length + m = (cs.getD 0 []).length → 2 * m + 1 ≤ d → 0 ≤ a → a < (mv.length : Int) →
    impl_Problem_onward.f k d mv sv a cw cs seen = some (On mv sv cw cs m a seen) := by
  intro m
  induction m with
  | zero =>
    intro d a seen hm hl hd h0 h1
    obtain ⟨d, rfl⟩ : ∃ g, d = g + 1 := ⟨d - 1, by omega⟩
    have hsl := hg.2.2.1
    have hlen6 : (cs.getD 0 []).length ≤ 6 := (hc.2.2.2 _ (by
      have := hc.1
      exact getD_mem (i := 0) (d := []) (by omega) (by omega))).1
    show impl_Problem_onward.B k (impl_Problem_reply.f k d) (impl_Problem_onward.f k d) (impl_Problem_onward.bs k (impl_Problem_reply.f k d) (impl_Problem_onward.f k d) k) mv sv a cw cs seen = _
    simp only [impl_Problem_onward.B]
    have main : ∀ (e f : Nat) (i : Int), e + 1 ≤ f → i + e = sv.length → 0 ≤ i → impl_Problem_onward.bs k (impl_Problem_reply.f k d) (impl_Problem_onward.f k d) f a seen 0 sv.length i mv sv cw cs = some 0 := by
      intro e
      induction e with
      | zero =>
        intro f i hf hi h0
        obtain ⟨f, rfl⟩ : ∃ g, f = g + 1 := ⟨f - 1, by omega⟩
        simp only [impl_Problem_onward.bs, impl_Problem_onward.B3]
        have : ¬ i < (sv.length : Int) := by omega
        simp [this]
      | succ e ih =>
        intro f i hf hi h0
        obtain ⟨f, rfl⟩ : ∃ g, f = g + 1 := ⟨f - 1, by omega⟩
        simp only [impl_Problem_onward.bs, impl_Problem_onward.B3]
        have h1 : i < (sv.length : Int) := by omega
        rw [clone_eq (by omega)]
        simp only [Option.bind_some]
        rw [begin_eq hk hsh hc.2.1 (fun x hx => by have := hc.2.2.1 x hx; omega) (by simp; omega), Wt_end hc (by rw [List.length_append, List.length_singleton]; omega), if_pos (by rw [capB_eq]; omega), w64_id (n := i + 1) (by omega) (by omega)]
        simp only [h1, decide_true, cond_true, Option.bind_some]
        have : ¬ (0 : Int) < 0 := by omega
        simp only [this, decide_false, cond_false]
        exact ih f (i + 1) (by omega) (by omega) (by omega)
    exact main sv.length k 0 (by omega) (by omega) (by omega)
  | succ m ihm =>
    intro d a seen hm hl hd h0 h1
    obtain ⟨d, rfl⟩ : ∃ g, d = g + 1 + 1 := ⟨d - 2, by omega⟩
    have hsl := hg.2.2.1
    have hlen6 : (cs.getD 0 []).length ≤ 6 := (hc.2.2.2 _ (by
      have := hc.1
      exact getD_mem (i := 0) (d := []) (by omega) (by omega))).1
    show impl_Problem_onward.B k (impl_Problem_reply.f k (d + 1)) (impl_Problem_onward.f k (d + 1)) (impl_Problem_onward.bs k (impl_Problem_reply.f k (d + 1)) (impl_Problem_onward.f k (d + 1)) k) mv sv a cw cs seen = _
    simp only [impl_Problem_onward.B]
    have hB := OnB_bd (show m ≤ 6 by omega)
    let G : Int → Int := fun r => if 0 < Wt cw cs (seen ++ [r]) then best sv r fun b => Wt cw cs (seen ++ [r]) * co mv sv a b r + On mv sv cw cs m b (seen ++ [r]) else 0
    have hG : ∀ r, 0 ≤ r → r < (sv.length : Int) → 0 ≤ G r ∧ G r ≤ 100000000 := fun r hr0 hr1 => by
      simp only [G]
      split
      · have := best_bd (hg.row ⟨hr0, hr1⟩).2.1 (On_g hg hc (On_bd hg hc m) ⟨h0, h1⟩ ⟨hr0, hr1⟩ (seen ++ [r]) (seen ++ [r]))
        omega
      · omega
    have main : ∀ (e f : Nat) (i : Nat) (s : Int), e + 1 ≤ f → i + e = sv.length → s = ((idx i).map G).sum → impl_Problem_onward.bs k (impl_Problem_reply.f k (d + 1)) (impl_Problem_onward.f k (d + 1)) f a seen s sv.length i mv sv cw cs = some (On mv sv cw cs (m + 1) a seen) := by
      intro e
      induction e with
      | zero =>
        intro f i s hf hi hs
        obtain ⟨f, rfl⟩ : ∃ g, f = g + 1 := ⟨f - 1, by omega⟩
        simp only [impl_Problem_onward.bs, impl_Problem_onward.B3]
        have : ¬ (i : Int) < (sv.length : Int) := by omega
        simp only [this, decide_false, cond_false]
        rw [hs, show i = sv.length by omega]; rfl
      | succ e ih =>
        intro f i s hf hi hs
        obtain ⟨f, rfl⟩ : ∃ g, f = g + 1 := ⟨f - 1, by omega⟩
        simp only [impl_Problem_onward.bs, impl_Problem_onward.B3]
        have h1i : (i : Int) < (sv.length : Int) := by omega
        have hsb : 0 ≤ s ∧ s ≤ 100000000 * i := by
          have : Nn 100000000 ((idx i).map G) := fun x hx => by
            obtain ⟨r, hr, rfl⟩ := List.mem_map.1 hx
            rw [idx_mem] at hr
            exact hG r hr.1 (by omega)
          have := this.sum
          rw [List.length_map, idx_len] at this
          rw [hs]; exact this
        have hGi := hG i (by omega) h1i
        rw [clone_eq (by omega)]
        simp only [Option.bind_some]
        rw [begin_eq hk hsh hc.2.1 (fun x hx => by have := hc.2.2.1 x hx; omega) (by simp; omega), if_pos (by rw [capB_eq]; omega), w64_id (n := (i : Int) + 1) (by omega) (by omega)]
        simp only [h1i, decide_true, cond_true, Option.bind_some]
        have hsum : ((idx (i + 1)).map G).sum = s + G i := by rw [idx_succ, List.map_append, List.sum_append, hs]; simp
        by_cases hW : 0 < Wt cw cs (seen ++ [(i : Int)])
        · have hrep := reply_eq (d := d) hk hg h2 hsh hc (m := m) (by omega) (a := a) (r := (i : Int)) ⟨h0, h1⟩ ⟨by omega, h1i⟩ (seen := seen) (by omega) fun b hb0 hb1 => ihm d b (seen ++ [(i : Int)]) (by omega) (by rw [List.length_append, List.length_singleton]; omega) (by omega) hb0 hb1
          rw [hrep]
          simp only [hW, decide_true, cond_true, Option.bind_some]
          rw [rp_best hg hc (by omega) ⟨h0, h1⟩ ⟨by omega, h1i⟩]
          have eG : (best sv i fun b => Wt cw cs (seen ++ [(i : Int)]) * co mv sv a b i + On mv sv cw cs m b (seen ++ [(i : Int)])) = G i := by
            show _ = if _ then _ else _
            rw [if_pos hW]
          rw [eG, w64_id (n := s + G i) (by omega) (by omega), show (i : Int) + 1 = ((i + 1 : Nat) : Int) by omega]
          exact ih f (i + 1) _ (by omega) (by omega) hsum.symm
        · have eG : G i = 0 := by
            show (if _ then _ else _) = _
            rw [if_neg hW]
          simp only [hW, decide_false, cond_false]
          rw [show (i : Int) + 1 = ((i + 1 : Nat) : Int) by omega]
          exact ih f (i + 1) _ (by omega) (by omega) (by rw [hsum, eG]; omega)
    exact main sv.length k 0 0 (by omega) (by omega) rfl

theorem cwNn (hc : ChP sv cw cs) : cw.sum ≤ 108 ∧ 1 ≤ cw.sum := by
  have h1 : Nn 9 cw := fun x hx => by have := hc.2.2.1 x hx; omega
  have h := h1.sum
  have h2 := hc.1
  have h3 := hc.2.1
  refine ⟨by omega, ?_⟩
  cases cw with
  | nil => simp at h3; omega
  | cons x l =>
    have hx := hc.2.2.1 x (by simp)
    have h4 : Nn 9 l := fun y hy => by have := hc.2.2.1 y (List.mem_cons_of_mem _ hy); omega
    have := h4.sum
    rw [List.sum_cons]; omega

theorem bestE_eq (hk : 2000000 ≤ k) (h1 : Mx mv) (h2 : Mx sv) (hsh : Sh cs) (hw : cw.length ≤ 100000) {st : Int} :
    (DrP mv sv st cw cs → impl_BestExpected.f k mv sv st cw cs = impl_makeFrac.f k (On mv sv cw cs (cs.getD 0 []).length st []) cw.sum) ∧ (¬ DrP mv sv st cw cs → impl_BestExpected.f k mv sv st cw cs = some (0, 0, false)) := by
  simp only [impl_BestExpected.f, impl_BestExpected.B, drawn_eq hk h1 h2 hsh hw, Option.bind_some]
  refine ⟨fun h => ?_, fun h => ?_⟩
  · have hc := h.2
    have hg := h.1.1
    have hlen6 : (cs.getD 0 []).length ≤ 6 := (hc.2.2.2 _ (by
      have := hc.1
      exact getD_mem (i := 0) (d := []) (by omega) (by omega))).1
    have hT := cwNn hc
    have hO := On_bd hg hc (cs.getD 0 []).length st [] h.1.2.1.1 h.1.2.1.2
    have hB := OnB_bd hlen6
    have hcl := hc.2.1
    have hcl2 := hc.1
    simp only [h, decide_true, Bool.not_true, cond_false]
    rw [onward_eq hk hg h2 hsh hc (cs.getD 0 []).length k st [] hlen6 (by simp) (by omega) h.1.2.1.1 h.1.2.1.2, total_eq hk (by omega) (fun x hx => by have := hc.2.2.1 x hx; omega)]
    simp only [Option.bind_some]
    obtain ⟨r, hr⟩ := make_ok hk (a := On mv sv cw cs (cs.getD 0 []).length st []) (b := cw.sum) (by omega) (by omega)
    rw [hr]; rfl
  · simp only [h, decide_false, Bool.not_false, cond_true]
end
end Go.Proofs.YtobfbgmglopdhaaGreat
namespace Go.Proofs.YtobfbgmglopdhaaGreat
open Ab Pl

section
variable {k : Nat} {code : List Int}

theorem weights11_ok (hb : By code) {n lo a s : Int} (hk : 2000000 ≤ k) (hn : 0 ≤ n ∧ n ≤ 1000) (h0 : 0 ≤ a) (h1 : a ≤ 1000000) :
    OK (spec_l1Cur_weights11.f k n lo code a s) fun r => r.1 = code ∧ 0 ≤ r.2.1 ∧ r.2.1 ≤ a + 3000 ∧ r.2.2.2.length ≤ 2000 := by
  simp only [spec_l1Cur_weights11.f, spec_l1Cur_weights11.B]
  have main : ∀ (d f : Nat) (i a' s' : Int) (l : List Int), d + 1 ≤ f → i + d = n → 0 ≤ i → (l.length : Int) = i → 0 ≤ a' → a' ≤ a + 2 * i →
      OK (spec_l1Cur_weights11.bs k f n lo i code a' s' l) fun r => r.1 = code ∧ 0 ≤ r.2.1 ∧ r.2.1 ≤ a + 3000 ∧ r.2.2.2.length ≤ 2000 := by
    intro d
    induction d with
    | zero =>
      intro f i a' s' l hf hi hi0 hl ha0 ha1
      obtain ⟨f, rfl⟩ : ∃ g, f = g + 1 := ⟨f - 1, by omega⟩
      simp only [spec_l1Cur_weights11.bs, spec_l1Cur_weights11.B3]
      refine OK.bif (fun h => by omega) fun _ => OK.bind (pick_ok hb ha0 (by omega)) ?_
      rintro ⟨v, c, a2, s2⟩ ⟨_, _, _, rfl, q3, q4⟩
      dsimp only at q3 q4 ⊢
      refine OK.bif (fun _ => OK.req (by rw [capB_eq]; omega) (OK.ret ⟨rfl, by dsimp only; omega, by dsimp only; omega, by simp; omega⟩)) fun _ => OK.bif (fun _ => OK.bif (fun _ => ?_) fun _ => ?_) fun _ => ?_
      · refine OK.bind (among_ok hb (by simp) (by omega) (by omega)) ?_
        rintro ⟨v3, c, a3, s3⟩ ⟨_, rfl, r3, r4⟩
        dsimp only at r3 r4 ⊢
        exact OK.req (by omega) (OK.ret ⟨rfl, by dsimp only; omega, by dsimp only; omega, by simp; omega⟩)
      · exact OK.ret ⟨rfl, by dsimp only; omega, by dsimp only; omega, by dsimp only; omega⟩
      · exact OK.ret ⟨rfl, by dsimp only; omega, by dsimp only; omega, by dsimp only; omega⟩
    | succ d ih =>
      intro f i a' s' l hf hi hi0 hl ha0 ha1
      obtain ⟨f, rfl⟩ : ∃ g, f = g + 1 := ⟨f - 1, by omega⟩
      simp only [spec_l1Cur_weights11.bs, spec_l1Cur_weights11.B3]
      refine OK.bif (fun _ => OK.bind (among_ok hb (by simp) ha0 (by omega)) ?_) fun h => by omega
      rintro ⟨v, c, a2, s2⟩ ⟨_, rfl, q3, q4⟩
      dsimp only at q3 q4 ⊢
      rw [w64_id (n := i + 1) (by omega) (by omega)]
      exact OK.req (by rw [capB_eq]; omega) (ih f _ _ _ _ (by omega) (by omega) (by omega) (by simp; omega) (by omega) (by omega))
  exact main n.toNat k 0 a s [] (by omega) (by omega) (by omega) rfl h0 (by omega)

theorem state8_ok (hb : By code) {p q : List (List Int)} {a s : Int} (h0 : 0 ≤ a) (h1 : a ≤ 100000000) :
    OK (spec_l1Cur_state8.f p q code a s) fun r => r.2.1 = code ∧ 0 ≤ r.2.2.1 ∧ r.2.2.1 ≤ a + 4 := by
  simp only [spec_l1Cur_state8.f, spec_l1Cur_state8.B]
  refine OK.bif (fun _ => OK.bind (among_ok hb (by simp) h0 (by omega)) ?_) fun _ => OK.bind (one_ok hb h0 (by omega)) ?_
  · rintro ⟨v, c, a2, s2⟩ ⟨_, rfl, q3, q4⟩
    exact OK.ret ⟨rfl, by dsimp only at *; omega, by dsimp only at *; omega⟩
  · rintro ⟨v, c, a2, s2⟩ ⟨rfl, q3, q4⟩
    dsimp only at q3 q4 ⊢
    refine OK.bifb (fun _ => OK.bind (among_ok hb (by simp) (by omega) (by omega)) ?_) fun _ => OK.bind (pick_ok hb (by omega) (by omega)) ?_
    · rintro ⟨v, c, a3, s3⟩ ⟨_, rfl, r3, r4⟩
      exact OK.ret ⟨rfl, by dsimp only at *; omega, by dsimp only at *; omega⟩
    · rintro ⟨v, c, a3, s3⟩ ⟨_, _, _, rfl, r3, r4⟩
      exact OK.ret ⟨rfl, by dsimp only at *; omega, by dsimp only at *; omega⟩

end

/-! the sequences of one or two requests -/
section
variable {mv sv : List (List Int)} {ws : List Int}

def wv (ws : List Int) (i : Int) : Int := ws.getD i.toNat 0
def pr1 (ws : List Int) (m : Nat) : List (Int × List Int) := (idx m).flatMap fun i => if 0 < wv ws i then [(wv ws i, [i])] else []
def pr2 (ws : List Int) (i : Int) (m : Nat) : List (Int × List Int) := (idx m).flatMap fun j => if 0 < wv ws i * wv ws j then [(wv ws i * wv ws j, [i, j])] else []
def al2 (ws : List Int) (n m : Nat) : List (Int × List Int) := (idx n).flatMap fun i => pr2 ws i m

theorem sum_flat {α β : Type} (f : α → List β) (g : β → Int) : ∀ l : List α, ((l.flatMap f).map g).sum = (l.map fun x => ((f x).map g).sum).sum
  | [] => rfl
  | x :: l => by rw [List.flatMap_cons, List.map_append, List.sum_append, sum_flat f g l]; rfl
theorem sum_idx (ws : List Int) : ((idx ws.length).map (wv ws)).sum = ws.sum := by
  congr 1
  refine List.ext_getElem (by simp [idx_len]) fun n h1 h2 => ?_
  simp only [List.getElem_map, idx, List.getElem_range, wv, Int.toNat_natCast]
  simp [List.getD, List.getElem?_eq_getElem h2]
theorem sum_mul (c : Int) (f : Int → Int) : ∀ l : List Int, (l.map fun x => c * f x).sum = c * (l.map f).sum
  | [] => by simp
  | x :: l => by simp only [List.map_cons, List.sum_cons]; rw [sum_mul c f l, Int.mul_add]
theorem sum_zero {f : Int → Int} : ∀ l : List Int, (∀ x ∈ l, f x = 0) → (l.map f).sum = 0
  | [], _ => rfl
  | x :: l, h => by
    rw [List.map_cons, List.sum_cons, h x (by simp), sum_zero l fun y hy => h y (List.mem_cons_of_mem _ hy)]; rfl
theorem sum_one {f : Int → Int} {r : Int} {n : Nat} (h0 : 0 ≤ r) (h : r < (n : Int)) (hf : ∀ x, x ≠ r → f x = 0) : ((idx n).map f).sum = f r := by
  induction n with
  | zero => omega
  | succ n ih =>
    rw [idx_succ, List.map_append, List.sum_append]
    by_cases e : r = n
    · subst e
      rw [sum_zero _ fun x hx => hf x (by rw [idx_mem] at hx; omega)]
      simp
    · rw [ih (by omega)]
      have := hf (n : Int) (by omega)
      simp [this]

theorem zip_pr (prs : List (Int × List Int)) : (prs.map (·.1)).zip (prs.map (·.2)) = prs := by
  induction prs with
  | nil => rfl
  | cons p l ih => simp [ih]
theorem Wt_pr (prs : List (Int × List Int)) (seen : List Int) : Wt (prs.map (·.1)) (prs.map (·.2)) seen = (prs.map fun p => if p.2.take seen.length = seen then p.1 else 0).sum := by
  unfold Wt; rw [zip_pr]

theorem WsP.wv (hw : WsP sv ws) (i : Int) : 0 ≤ wv ws i ∧ wv ws i ≤ 9 := hw.get _

theorem pr1_sum (hw : WsP sv ws) : ((pr1 ws ws.length).map (·.1)).sum = ws.sum := by
  unfold pr1
  rw [sum_flat, ← sum_idx ws]
  refine congrArg List.sum (List.map_congr_left fun i _ => ?_)
  have := hw.wv i
  split
  · simp
  · simp; omega
theorem pr1_W (hw : WsP sv ws) {r : Int} (h0 : 0 ≤ r) (h : r < (ws.length : Int)) : Wt ((pr1 ws ws.length).map (·.1)) ((pr1 ws ws.length).map (·.2)) [r] = wv ws r := by
  rw [Wt_pr]
  unfold pr1
  rw [sum_flat, sum_one h0 h]
  · have := hw.wv r
    split
    · simp
    · simp; omega
  · intro x hx
    split
    · simp [hx]
    · simp

theorem pr2_row (hw : WsP sv ws) (i : Int) : ((pr2 ws i ws.length).map (·.1)).sum = wv ws i * ws.sum := by
  unfold pr2
  rw [sum_flat, ← sum_idx ws, ← sum_mul]
  refine congrArg List.sum (List.map_congr_left fun j _ => ?_)
  have := mulbd (hw.wv i) (hw.wv j)
  split
  · simp
  · simp; omega
theorem al2_sum (hw : WsP sv ws) : ((al2 ws ws.length ws.length).map (·.1)).sum = ws.sum * ws.sum := by
  unfold al2
  rw [sum_flat]
  simp only [pr2_row hw]
  rw [show (fun x => wv ws x * ws.sum) = fun x => ws.sum * wv ws x from funext fun x => Int.mul_comm _ _, sum_mul, sum_idx]
theorem al2_W1 (hw : WsP sv ws) {r : Int} (h0 : 0 ≤ r) (h : r < (ws.length : Int)) : Wt ((al2 ws ws.length ws.length).map (·.1)) ((al2 ws ws.length ws.length).map (·.2)) [r] = wv ws r * ws.sum := by
  rw [Wt_pr]
  unfold al2
  rw [sum_flat, sum_one h0 h, ← pr2_row hw r]
  · unfold pr2
    rw [sum_flat, sum_flat]
    refine congrArg List.sum (List.map_congr_left fun j _ => ?_)
    split <;> simp
  · intro x hx
    unfold pr2
    rw [sum_flat]
    refine sum_zero _ fun j _ => ?_
    split
    · simp [hx]
    · simp
theorem al2_W2 (hw : WsP sv ws) {r q : Int} (h0 : 0 ≤ r) (h : r < (ws.length : Int)) (g0 : 0 ≤ q) (g : q < (ws.length : Int)) : Wt ((al2 ws ws.length ws.length).map (·.1)) ((al2 ws ws.length ws.length).map (·.2)) [r, q] = wv ws r * wv ws q := by
  rw [Wt_pr]
  unfold al2
  rw [sum_flat, sum_one h0 h]
  · unfold pr2
    rw [sum_flat, sum_one g0 g]
    · have := mulbd (hw.wv r) (hw.wv q)
      split
      · simp
      · simp; omega
    · intro x hx
      split
      · simp [hx]
      · simp
  · intro x hx
    unfold pr2
    rw [sum_flat]
    refine sum_zero _ fun j _ => ?_
    split
    · simp [hx]
    · simp

theorem minL_mul {c : Int} (hc : 0 ≤ c) (l : List Int) : minL (l.map fun x => c * x) = c * minL l := by
  have : ∀ (l : List Int) (x : Int), (l.map fun x => c * x).foldl min (c * x) = c * l.foldl min x := by
    intro l
    induction l with
    | nil => intro x; rfl
    | cons y l ih =>
      intro x
      rw [List.map_cons, List.foldl_cons, List.foldl_cons, ← ih]
      congr 1
      rcases Int.le_total x y with h | h
      · rw [show min x y = x by omega]
        have := Int.mul_le_mul_of_nonneg_left h hc
        omega
      · rw [show min x y = y by omega]
        have := Int.mul_le_mul_of_nonneg_left h hc
        omega
  cases l with
  | nil => simp [minL]
  | cons x l => exact this l x
theorem best_mul {c : Int} (hc : 0 ≤ c) {r : Int} {g : Int → Int} : (best sv r fun b => c * g b) = c * best sv r g := by
  unfold best
  rw [← minL_mul hc, List.map_map]; rfl

theorem posIf {x y : Int} {F : Int → Int} (h : x = y) : (if 0 < x then F x else 0) = if 0 < y then F y else 0 := by subst h; rfl

theorem on1 (hw : WsP sv ws) {a : Int} : On mv sv ((pr1 ws ws.length).map (·.1)) ((pr1 ws ws.length).map (·.2)) 1 a [] = FI mv sv ws 1 a := by
  simp only [On, FI]
  refine congrArg List.sum (List.map_congr_left fun r hr => ?_)
  rw [idx_mem] at hr
  refine (posIf (F := fun W => best sv r fun b => W * co mv sv a b r + 0) (pr1_W hw hr.1 (show r < (ws.length : Int) by have := hw.len; omega))).trans ?_
  have h0 := hw.wv r
  have e : (best sv r fun b => ws.sum ^ 0 * co mv sv a b r + 0) = best sv r fun b => co mv sv a b r := best_congr fun b _ => by rw [Int.pow_zero]; omega
  have e2 : (best sv r fun b => wv ws r * co mv sv a b r + 0) = wv ws r * best sv r fun b => co mv sv a b r := by
    rw [← best_mul h0.1]; exact best_congr fun b _ => by omega
  show _ = wv ws r * _
  rw [e, e2]
  split
  · rfl
  · rw [show wv ws r = 0 by omega, Int.zero_mul]

theorem on2 (hw : WsP sv ws) (hT : 0 < ws.sum) {a : Int} : On mv sv ((al2 ws ws.length ws.length).map (·.1)) ((al2 ws ws.length ws.length).map (·.2)) 2 a [] = FI mv sv ws 2 a := by
  have inner : ∀ r b, 0 ≤ r → r < (sv.length : Int) → On mv sv ((al2 ws ws.length ws.length).map (·.1)) ((al2 ws ws.length ws.length).map (·.2)) 1 b [r] = wv ws r * FI mv sv ws 1 b := by
    intro r b h0 h1
    simp only [On, FI]
    rw [← sum_mul]
    refine congrArg List.sum (List.map_congr_left fun q hq => ?_)
    rw [idx_mem] at hq
    have hwl := hw.len
    refine (posIf (F := fun W => best sv q fun c => W * co mv sv b c q + 0) (al2_W2 hw h0 (show r < (ws.length : Int) by omega) hq.1 (show q < (ws.length : Int) by omega))).trans ?_
    have hr := hw.wv r
    have hq' := hw.wv q
    have hm := mulbd hr hq'
    have e : (best sv q fun c => ws.sum ^ 0 * co mv sv b c q + 0) = best sv q fun c => co mv sv b c q := best_congr fun c _ => by rw [Int.pow_zero]; omega
    have e2 : (best sv q fun c => wv ws r * wv ws q * co mv sv b c q + 0) = wv ws r * wv ws q * best sv q fun c => co mv sv b c q := by
      rw [← best_mul hm.1]; exact best_congr fun c _ => by omega
    show _ = wv ws r * (wv ws q * _)
    rw [e, e2]
    split
    · rw [Int.mul_assoc]
    · rw [← Int.mul_assoc, show wv ws r * wv ws q = 0 by omega, Int.zero_mul]
  rw [show On mv sv ((al2 ws ws.length ws.length).map (·.1)) ((al2 ws ws.length ws.length).map (·.2)) 2 a [] = ((idx sv.length).map fun r => if 0 < Wt ((al2 ws ws.length ws.length).map (·.1)) ((al2 ws ws.length ws.length).map (·.2)) ([] ++ [r]) then best sv r fun b => Wt ((al2 ws ws.length ws.length).map (·.1)) ((al2 ws ws.length ws.length).map (·.2)) ([] ++ [r]) * co mv sv a b r + On mv sv ((al2 ws ws.length ws.length).map (·.1)) ((al2 ws ws.length ws.length).map (·.2)) 1 b ([] ++ [r]) else 0).sum from rfl,
    show FI mv sv ws 2 a = ((idx sv.length).map fun r => ws.getD r.toNat 0 * best sv r fun b => ws.sum ^ 1 * co mv sv a b r + FI mv sv ws 1 b).sum from rfl]
  refine congrArg List.sum (List.map_congr_left fun r hr => ?_)
  rw [idx_mem] at hr
  have hwl := hw.len
  refine (posIf (F := fun W => best sv r fun b => W * co mv sv a b r + On mv sv ((al2 ws ws.length ws.length).map (·.1)) ((al2 ws ws.length ws.length).map (·.2)) 1 b [r]) (al2_W1 hw hr.1 (show r < (ws.length : Int) by omega))).trans ?_
  have h0 := hw.wv r
  have e2 : (best sv r fun b => wv ws r * ws.sum * co mv sv a b r + On mv sv ((al2 ws ws.length ws.length).map (·.1)) ((al2 ws ws.length ws.length).map (·.2)) 1 b [r]) = wv ws r * best sv r fun b => ws.sum ^ 1 * co mv sv a b r + FI mv sv ws 1 b := by
    rw [← best_mul h0.1]
    refine best_congr fun b _ => ?_
    rw [inner r b hr.1 hr.2, Int.mul_add, Int.pow_succ, Int.pow_zero, Int.one_mul, Int.mul_assoc]
  show _ = wv ws r * _
  rw [e2]
  split
  · rfl
  · rename_i hn
    have : wv ws r = 0 := by
      rcases Int.lt_or_le 0 (wv ws r) with h | h
      · exact absurd (Int.mul_pos h hT) hn
      · omega
    rw [this, Int.zero_mul]
end
end Go.Proofs.YtobfbgmglopdhaaGreat
