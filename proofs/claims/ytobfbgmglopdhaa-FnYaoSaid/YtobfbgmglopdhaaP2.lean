/- Proved: for every string of bytes the plain form of the law FnYao answers true; no condition. -/
import Derived.Test.YtobfbgmglopdhaaP1
set_option linter.unusedVariables false
set_option linter.unusedSimpArgs false
namespace Go.Proofs.Ytobfbgmglopdhaa
open Ab Pl

section
variable {mv sv cs : List (List Int)} {cw : List Int} {k : Nat}

theorem own_eq {l : List Int} (hl : l.length ≤ 1000000) : spec_l1Own.f l = some l := by
  simp only [spec_l1Own.f, spec_l1Own.B]
  rw [if_pos (by rw [capB_eq]; omega)]; rfl

theorem same_eq (hk : 2000000 ≤ k) {a b : List Int} (hl : a.length ≤ 1000000) : spec_l1Same.f k a b = some (decide (a = b)) := by
  simp only [spec_l1Same.f, spec_l1Same.B]
  by_cases hab : (a.length : Int) = b.length
  · simp only [hab, decide_true, Bool.not_true, cond_false]
    have main : ∀ (d f : Nat) (i : Int), d + 1 ≤ f → i + d = b.length → 0 ≤ i → spec_l1Same.bs k f a b i = some (decide (a.drop i.toNat = b.drop i.toNat)) := by
      intro d
      induction d with
      | zero =>
        intro f i hf hi h0
        obtain ⟨f, rfl⟩ : ∃ g, f = g + 1 := ⟨f - 1, by omega⟩
        simp only [spec_l1Same.bs, spec_l1Same.B4]
        rw [drop_end (l := a) (by omega), drop_end (l := b) (by omega)]
        have : ¬ i < (a.length : Int) := by omega
        simp [this]
      | succ d ih =>
        intro f i hf hi h0
        obtain ⟨f, rfl⟩ : ∃ g, f = g + 1 := ⟨f - 1, by omega⟩
        simp only [spec_l1Same.bs, spec_l1Same.B4]
        have h1 : i < (b.length : Int) := by omega
        have h2 : i < (a.length : Int) := by omega
        rw [drop_at (l := a) (d := 0) h0 h2, drop_at (l := b) (d := 0) h0 h1, w64_id (n := i + 1) (by omega) (by omega), ih f (i + 1) (by omega) (by omega) (by omega)]
        simp only [h0, h1, h2, decide_true, cond_true, and_self, if_true, List.cons.injEq]
        by_cases hx : a.getD i.toNat 0 = b.getD i.toNat 0
        · rw [hx]; simp
        · simp only [hx, decide_false, Bool.not_false, cond_true, false_and]
    have := main b.length k 0 (by omega) (by omega) (by omega)
    simpa using this
  · have : ¬ a = b := fun e => hab (by rw [e])
    simp [hab, this]

theorem begins_eq (hk : 2000000 ≤ k) {q seen : List Int} (hq : q.length ≤ 1000000) : spec_l11Begins.f k q seen = some (decide (q.take seen.length = seen)) := by
  simp only [spec_l11Begins.f, spec_l11Begins.B]
  by_cases hlen : (seen.length : Int) ≤ q.length
  · rw [if_pos ⟨by omega, by omega, hlen⟩, Int.toNat_natCast, same_eq hk (by rw [List.length_take]; omega)]
    simp only [hlen, decide_true, cond_true, Option.bind_some]
  · have he : ¬ q.take seen.length = seen := fun e => by
      have := congrArg List.length e
      rw [List.length_take] at this; omega
    simp only [hlen, he, decide_false, cond_false]

theorem weightS_eq (hk : 2000000 ≤ k) (hc : Sh cs) (hw : cw.length = cs.length) (hb : ∀ x ∈ cw, 0 ≤ x ∧ x ≤ 1000) {seen : List Int} : spec_l11Weight.f k cw cs seen = some (Wt cw cs seen) := by
  simp only [spec_l11Weight.f, spec_l11Weight.B]
  have n1 := hc.1
  have main : ∀ (d f : Nat) (i s : Int), d + 1 ≤ f → i + d = cs.length → 0 ≤ i → 0 ≤ s → s ≤ 1000 * i → spec_l11Weight.bs k f seen s i cw cs =
      some (s + (((cw.zip cs).drop i.toNat).map fun p => if p.2.take seen.length = seen then p.1 else 0).sum) := by
    intro d
    induction d with
    | zero =>
      intro f i s hf hi h0 hs0 hs1
      obtain ⟨f, rfl⟩ : ∃ g, f = g + 1 := ⟨f - 1, by omega⟩
      simp only [spec_l11Weight.bs, spec_l11Weight.B3]
      rw [drop_end (by rw [List.length_zip]; omega)]
      have : ¬ i < (cs.length : Int) := by omega
      simp [this]
    | succ d ih =>
      intro f i s hf hi h0 hs0 hs1
      obtain ⟨f, rfl⟩ : ∃ g, f = g + 1 := ⟨f - 1, by omega⟩
      simp only [spec_l11Weight.bs, spec_l11Weight.B3]
      have h1 : i < (cs.length : Int) := by omega
      have h2 : i < (cw.length : Int) := by omega
      have hq := hc.2 _ (getD_mem (d := []) h0 h1)
      have hx := hb _ (getD_mem (d := 0) h0 h2)
      have hz : (cw.zip cs).getD i.toNat (0, []) = (cw.getD i.toNat 0, cs.getD i.toNat []) := by
        have e1 : i.toNat < cw.length := by omega
        have e2 : i.toNat < cs.length := by omega
        have e3 : i.toNat < (cw.zip cs).length := by rw [List.length_zip]; omega
        simp only [List.getD, List.getElem?_eq_getElem e1, List.getElem?_eq_getElem e2, List.getElem?_eq_getElem e3, Option.getD_some, List.getElem_zip]
      rw [drop_at (l := cw.zip cs) (d := (0, [])) h0 (by rw [List.length_zip]; omega), hz, List.map_cons, List.sum_cons, w64_id (n := i + 1) (by omega) (by omega), w64_id (n := s + _) (by omega) (by omega)]
      rw [begins_eq hk (by omega)]
      simp only [h0, h1, h2, decide_true, cond_true, and_self, if_true, Option.bind_some]
      generalize cs.getD i.toNat [] = q at hq
      generalize cw.getD i.toNat 0 = x at hx
      by_cases he : q.take seen.length = seen
      · simp only [he, decide_true, cond_true, if_true]
        rw [ih f (i + 1) _ (by omega) (by omega) (by omega) (by omega) (by omega)]
        congr 1; omega
      · simp only [he, decide_false, cond_false, if_false]
        rw [ih f (i + 1) _ (by omega) (by omega) (by omega) (by omega) (by omega)]
        congr 1; omega
  have := main cs.length k 0 0 (by omega) (by omega) (by omega) (by omega) (by omega)
  simpa [Wt] using this

/-- the spec's way to the first state with the least value -/
def rq (g : Int → Int) (l : List Int) (p : Int × Int) : Int × Int := l.foldl (fun p b => if p.2 < 0 then (b, g b) else if g b < p.2 then (b, g b) else p) p
theorem rq_rp (g : Int → Int) : ∀ (l : List Int) (p : Int × Int), 0 ≤ p.2 → (∀ b ∈ l, 0 ≤ g b) → rq g l p = rp g l p
  | [], p, _, _ => rfl
  | b :: l, p, h0, h => by
    have hb := h b (by simp)
    show rq g l (if p.2 < 0 then (b, g b) else if g b < p.2 then (b, g b) else p) = rp g l (if g b < p.2 then (b, g b) else p)
    rw [if_neg (by omega)]
    exact rq_rp g l _ (by split <;> simp_all) fun x hx => h x (List.mem_cons_of_mem _ hx)
theorem rq_first {g : Int → Int} {l : List Int} (h : l ≠ []) (hb : ∀ b ∈ l, 0 ≤ g b ∧ g b < 1073741824) : rq g l (0, -1) = rp g l (-1, 1073741824) := by
  cases l with
  | nil => exact absurd rfl h
  | cons b l =>
    have h1 := hb b (by simp)
    show rq g l (if (-1 : Int) < 0 then (b, g b) else _) = rp g l (if g b < 1073741824 then (b, g b) else _)
    rw [if_pos (by omega), if_pos h1.2]
    exact rq_rp g l _ h1.1 fun x hx => (hb x (List.mem_cons_of_mem _ hx)).1

variable {seen : List Int}
theorem replyS_eq (hk : 2000000 ≤ k) (hg : GoodP mv sv) (hsh : Sh cs) (hc : ChP sv cw cs) {m d : Nat} (hm : m ≤ 5) {a r : Int} (ha : 0 ≤ a ∧ a < (mv.length : Int)) (hr : 0 ≤ r ∧ r < (sv.length : Int)) (hs : seen.length ≤ 1000)
    (hon : ∀ b, 0 ≤ b → b < (mv.length : Int) → spec_l11Ahead.f k d mv sv b cw cs (seen ++ [r]) = some (On mv sv cw cs m b (seen ++ [r]))) :
    spec_l11Reply.f k (d + 1) mv sv a cw cs (seen ++ [r]) = some (rp (fun b => Wt cw cs (seen ++ [r]) * co mv sv a b r + On mv sv cw cs m b (seen ++ [r])) (srv sv r) (-1, 1073741824)) := by
  show spec_l11Reply.B k (spec_l11Ahead.f k d) (spec_l11Reply.f k d) (spec_l11Reply.bs k (spec_l11Ahead.f k d) (spec_l11Reply.f k d) k) mv sv a cw cs (seen ++ [r]) = _
  simp only [spec_l11Reply.B]
  have hlen : ((seen ++ [r]).length : Int) = seen.length + 1 := by simp
  have hlast : (seen ++ [r]).getD ((seen.length : Int) + 1 - 1).toNat 0 = r := by
    rw [show ((seen.length : Int) + 1 - 1).toNat = seen.length by omega]
    simp [List.getD]
  rw [hlen, w64_id (n := (seen.length : Int) + 1 - 1) (by omega) (by omega), if_pos (by omega), hlast]
  have hml := hg.1
  have hrow := (hg.row hr).1
  have hB := OnB_bd (show m ≤ 6 by omega)
  rw [← rq_first (hg.row hr).2.1 (fun b hb => by
    have := On_g hg hc (On_bd hg hc m) ha hr (seen ++ [r]) (seen ++ [r]) b hb
    omega), ← srvF_all hg hr]
  have main : ∀ (e f : Nat) (i : Nat) (p : Int × Int), e + 1 ≤ f → i + e = mv.length →
      spec_l11Reply.bs k (spec_l11Ahead.f k d) (spec_l11Reply.f k d) f a (seen ++ [r]) r p.1 p.2 i mv sv cw cs =
        some (rq (fun b => Wt cw cs (seen ++ [r]) * co mv sv a b r + On mv sv cw cs m b (seen ++ [r])) (srvF sv r i e) p) := by
    intro e
    induction e with
    | zero =>
      intro f i p hf hi
      obtain ⟨f, rfl⟩ : ∃ g, f = g + 1 := ⟨f - 1, by omega⟩
      simp only [spec_l11Reply.bs, spec_l11Reply.B5]
      have : ¬ (i : Int) < (mv.length : Int) := by omega
      simp only [this, decide_false, cond_false]
      rfl
    | succ e ih =>
      intro f i p hf hi
      obtain ⟨f, rfl⟩ : ∃ g, f = g + 1 := ⟨f - 1, by omega⟩
      simp only [spec_l11Reply.bs, spec_l11Reply.B5]
      have h1 : (i : Int) < (mv.length : Int) := by omega
      have h0 : 0 ≤ (i : Int) := by omega
      have h2 : (i : Int) < ((sv.getD r.toNat []).length : Int) := by omega
      have hsq := hg.sq.row ha.1 ha.2
      have h3 : (i : Int) < ((mv.getD a.toNat []).length : Int) := by omega
      have e1 : (sv.getD r.toNat []).getD (i : Int).toNat 0 = ce sv r i := rfl
      have e2 : (mv.getD a.toNat []).getD (i : Int).toNat 0 + ce sv r i = co mv sv a i r := rfl
      rw [e1, e2, weightS_eq hk hsh hc.2.1 (fun x hx => by have := hc.2.2.1 x hx; omega), hon _ h0 h1, w64_id (n := (i : Int) + 1) (by omega) (by omega), show (i : Int) + 1 = ((i + 1 : Nat) : Int) by omega, srvF_succ]
      simp only [h0, h1, h2, h3, hr, ha, decide_true, cond_true, and_self, if_true, Option.bind_some]
      by_cases hce : 0 ≤ ce sv r i
      · have hin : (i : Int) ∈ srv sv r := srvF_sub (i := i) (d := e + 1) (by rw [srvF_succ, if_pos hce]; simp) (by omega)
        have hv := On_g hg hc (On_bd hg hc m) ha hr (seen ++ [r]) (seen ++ [r]) _ hin
        have hw := mulbd (Wt_bd hc (seen ++ [r])) (hg.co ha hr hin)
        have hco := hg.co ha hr hin
        simp only [hce, decide_true, cond_true, if_true]
        rw [w64_id (n := co mv sv a i r) (by omega) (by omega), w64_id (n := Wt cw cs (seen ++ [r]) * _) (by omega) (by omega), w64_id (n := Wt cw cs (seen ++ [r]) * _ + _) (by omega) (by omega)]
        have step : ∀ l, rq (fun b => Wt cw cs (seen ++ [r]) * co mv sv a b r + On mv sv cw cs m b (seen ++ [r])) ((i : Int) :: l) p =
            rq (fun b => Wt cw cs (seen ++ [r]) * co mv sv a b r + On mv sv cw cs m b (seen ++ [r])) l (if p.2 < 0 then ((i : Int), Wt cw cs (seen ++ [r]) * co mv sv a i r + On mv sv cw cs m i (seen ++ [r])) else if Wt cw cs (seen ++ [r]) * co mv sv a i r + On mv sv cw cs m i (seen ++ [r]) < p.2 then ((i : Int), Wt cw cs (seen ++ [r]) * co mv sv a i r + On mv sv cw cs m i (seen ++ [r])) else p) := fun l => rfl
        rw [step]
        by_cases hp : p.2 < 0
        · simp only [hp, decide_true, cond_true, if_true]
          exact ih f (i + 1) ((i : Int), _) (by omega) (by omega)
        · by_cases hlt : Wt cw cs (seen ++ [r]) * co mv sv a i r + On mv sv cw cs m i (seen ++ [r]) < p.2
          · simp only [hp, hlt, decide_true, decide_false, cond_false, cond_true, if_true, if_false]
            exact ih f (i + 1) ((i : Int), _) (by omega) (by omega)
          · simp only [hp, hlt, decide_false, cond_false, if_false]
            exact ih f (i + 1) p (by omega) (by omega)
      · simp only [hce, decide_false, cond_false, if_false]
        exact ih f (i + 1) p (by omega) (by omega)
  exact main mv.length k 0 (0, -1) (by omega) (by omega)

theorem aheadS_eq (hk : 2000000 ≤ k) (hg : GoodP mv sv) (hsh : Sh cs) (hc : ChP sv cw cs) : ∀ (m : Nat) (d : Nat) (a : Int) (seen : List Int), m ≤ 6 → seen.length + m = (cs.getD 0 []).length → 2 * m + 1 ≤ d → 0 ≤ a → a < (mv.length : Int) →
    spec_l11Ahead.f k d mv sv a cw cs seen = some (On mv sv cw cs m a seen) := by
  intro m
  induction m with
  | zero =>
    intro d a seen hm hl hd h0 h1
    obtain ⟨d, rfl⟩ : ∃ g, d = g + 1 := ⟨d - 1, by omega⟩
    have hcl := hc.1
    show spec_l11Ahead.B k (spec_l11Ahead.f k d) (spec_l11Reply.f k d) (spec_l11Ahead.bs k (spec_l11Ahead.f k d) (spec_l11Reply.f k d) k) mv sv a cw cs seen = _
    simp only [spec_l11Ahead.B]
    have e : (seen.length : Int) = (cs.getD 0 []).length := by omega
    rw [if_pos (by omega)]
    simp only [e, decide_true, cond_true]
    rfl
  | succ m ihm =>
    intro d a seen hm hl hd h0 h1
    obtain ⟨d, rfl⟩ : ∃ g, d = g + 1 + 1 := ⟨d - 2, by omega⟩
    have hsl := hg.2.2.1
    have hcl := hc.1
    have hlen6 : (cs.getD 0 []).length ≤ 6 := (hc.2.2.2 _ (getD_mem (i := 0) (d := []) (by omega) (by omega))).1
    show spec_l11Ahead.B k (spec_l11Ahead.f k (d + 1)) (spec_l11Reply.f k (d + 1)) (spec_l11Ahead.bs k (spec_l11Ahead.f k (d + 1)) (spec_l11Reply.f k (d + 1)) k) mv sv a cw cs seen = _
    simp only [spec_l11Ahead.B]
    have ene : ¬ (seen.length : Int) = (cs.getD 0 []).length := by omega
    rw [if_pos (by omega)]
    simp only [ene, decide_false, cond_false]
    have hB := OnB_bd (show m ≤ 6 by omega)
    let G : Int → Int := fun r => if 0 < Wt cw cs (seen ++ [r]) then best sv r fun b => Wt cw cs (seen ++ [r]) * co mv sv a b r + On mv sv cw cs m b (seen ++ [r]) else 0
    have hG : ∀ r, 0 ≤ r → r < (sv.length : Int) → 0 ≤ G r ∧ G r ≤ 100000000 := fun r hr0 hr1 => by
      simp only [G]
      split
      · have := best_bd (hg.row ⟨hr0, hr1⟩).2.1 (On_g hg hc (On_bd hg hc m) ⟨h0, h1⟩ ⟨hr0, hr1⟩ (seen ++ [r]) (seen ++ [r]))
        omega
      · omega
    have main : ∀ (e f : Nat) (i : Nat) (s : Int), e + 1 ≤ f → i + e = sv.length → s = ((idx i).map G).sum → spec_l11Ahead.bs k (spec_l11Ahead.f k (d + 1)) (spec_l11Reply.f k (d + 1)) f a seen s i mv sv cw cs = some (On mv sv cw cs (m + 1) a seen) := by
      intro e
      induction e with
      | zero =>
        intro f i s hf hi hs
        obtain ⟨f, rfl⟩ : ∃ g, f = g + 1 := ⟨f - 1, by omega⟩
        simp only [spec_l11Ahead.bs, spec_l11Ahead.B5]
        have : ¬ (i : Int) < (sv.length : Int) := by omega
        simp only [this, decide_false, cond_false]
        rw [hs, show i = sv.length by omega]; rfl
      | succ e ih =>
        intro f i s hf hi hs
        obtain ⟨f, rfl⟩ : ∃ g, f = g + 1 := ⟨f - 1, by omega⟩
        simp only [spec_l11Ahead.bs, spec_l11Ahead.B5]
        have h1i : (i : Int) < (sv.length : Int) := by omega
        have hsb : 0 ≤ s ∧ s ≤ 100000000 * i := by
          have : Nn 100000000 ((idx i).map G) := fun x hx => by
            obtain ⟨r, hr, rfl⟩ := List.mem_map.1 hx
            rw [idx_mem] at hr
            exact hG r hr.1 (by omega)
          have := this.sum
          rw [List.length_map, idx_len] at this
          rw [hs]; exact this
        have hGi := hG i (by omega) h1i
        rw [own_eq (by omega)]
        simp only [Option.bind_some]
        rw [weightS_eq hk hsh hc.2.1 (fun x hx => by have := hc.2.2.1 x hx; omega), if_pos (by rw [capB_eq]; omega), w64_id (n := (i : Int) + 1) (by omega) (by omega)]
        simp only [h1i, decide_true, cond_true, Option.bind_some]
        have hsum : ((idx (i + 1)).map G).sum = s + G i := by rw [idx_succ, List.map_append, List.sum_append, hs]; simp
        by_cases hW : 0 < Wt cw cs (seen ++ [(i : Int)])
        · have hrep := replyS_eq (d := d) hk hg hsh hc (m := m) (by omega) (a := a) (r := (i : Int)) ⟨h0, h1⟩ ⟨by omega, h1i⟩ (seen := seen) (by omega) fun b hb0 hb1 => ihm d b (seen ++ [(i : Int)]) (by omega) (by rw [List.length_append, List.length_singleton]; omega) (by omega) hb0 hb1
          rw [hrep]
          simp only [hW, decide_true, cond_true, Option.bind_some]
          rw [rp_best hg hc (by omega) ⟨h0, h1⟩ ⟨by omega, h1i⟩]
          have eG : (best sv i fun b => Wt cw cs (seen ++ [(i : Int)]) * co mv sv a b i + On mv sv cw cs m b (seen ++ [(i : Int)])) = G i := by
            show _ = if _ then _ else _
            rw [if_pos hW]
          rw [eG, w64_id (n := s + G i) (by omega) (by omega), show (i : Int) + 1 = ((i + 1 : Nat) : Int) by omega]
          exact ih f (i + 1) _ (by omega) (by omega) hsum.symm
        · have eG : G i = 0 := by
            show (if _ then _ else _) = _
            rw [if_neg hW]
          simp only [hW, decide_false, cond_false]
          rw [show (i : Int) + 1 = ((i + 1 : Nat) : Int) by omega]
          exact ih f (i + 1) _ (by omega) (by omega) (by rw [hsum, eG]; omega)
    exact main sv.length k 0 0 (by omega) (by omega) rfl
end
end Go.Proofs.Ytobfbgmglopdhaa
namespace Go.Proofs.Ytobfbgmglopdhaa
open Ab Pl

section
variable {mv sv cs : List (List Int)} {cw : List Int} {k : Nat}

open Classical in
theorem chancesS_eq (hk : 2000000 ≤ k) (h1 : Mx mv) (h2 : Mx sv) (hc : Sh cs) (hw : cw.length ≤ 100000) : spec_l11Chances.f k mv sv cw cs = some (decide (GoodP mv sv ∧ ChP sv cw cs)) := by
  have n1 := hc.1
  simp only [spec_l11Chances.f, spec_l11Chances.B, problemS_eq hk h1 h2, in_eq, Option.bind_some, weightsS_eq hk (l := cw) (n := 1) (by omega)]
  by_cases a0 : GoodP mv sv
  · have hml := a0.1
    by_cases a1 : 1 ≤ (cs.length : Int) ∧ (cs.length : Int) ≤ 12
    · have e : spec_l11Chances.bs k k 0 mv sv cw cs = some ((cs.drop 0).all fun q => decide (SeqP sv (cs.getD 0 []).length q)) := by
        refine allLoop (L := fun f i => spec_l11Chances.bs k f i mv sv cw cs) (d := []) (fun f i h0 h1' => ?_) (fun f i h => ?_) cs.length k 0 (by omega) (by omega) (by omega)
        · simp only [spec_l11Chances.bs, spec_l11Chances.B4, h0, h1', decide_true, cond_true, and_self, if_true]
          have hq := hc.2 _ (getD_mem (d := []) h0 h1')
          rw [if_pos (by omega), takes_eq hk h1 h2 hq, w64_id (n := i + 1) (by omega) (by omega)]
          generalize cs.getD i.toNat [] = q at hq
          by_cases b1 : (q.length : Int) = (cs.getD 0 []).length
          · by_cases b2 : (6 : Int) < q.length
            · have : ¬ SeqP sv (cs.getD 0 []).length q := fun h => by have := h.1; omega
              rw [decide_eq_false this, decide_eq_true b1, decide_eq_true b2]; rfl
            · have b3 : StartP mv sv 0 q ↔ SeqP sv (cs.getD 0 []).length q := ⟨fun h => ⟨by omega, b1, h.2.2.2⟩, fun h => ⟨a0, by omega, by omega, h.2.2⟩⟩
              simp only [b2, decide_false, cond_false, Option.bind_some]
              rw [b1]
              simp only [decide_true, Bool.not_true, cond_false, decide_eq_decide.2 b3]
          · have : ¬ SeqP sv (cs.getD 0 []).length q := fun h => b1 h.2.1
            rw [decide_eq_false this, decide_eq_false b1]; rfl
        · have : ¬ i < (cs.length : Int) := by omega
          simp only [spec_l11Chances.bs, spec_l11Chances.B4, this, decide_false, cond_false]
      rw [e]
      by_cases a2 : (cw.length : Int) = cs.length
      · cases a3 : (cw.all fun c => decide (1 ≤ c ∧ c ≤ 9)) with
        | true =>
          simp only [a0, a1, a2, decide_true, and_self, Bool.not_true, cond_false]
          congr 1
          rw [Bool.eq_iff_iff]
          simp only [decide_eq_true_iff, List.drop_zero, List.all_eq_true, true_and]
          exact ⟨fun h => ⟨by omega, by omega, allIn.1 a3, fun q hq => h q hq⟩, fun h q hq => h.2.2.2 q hq⟩
        | false =>
          have : ¬ ChP sv cw cs := fun h => by
            have := allIn.2 h.2.2.1
            rw [a3] at this; simp at this
          simp [a0, a1, a2, this]
      · have : ¬ ChP sv cw cs := fun h => a2 (by have := h.2.1; omega)
        simp [a0, a1, a2, this]
    · have : ¬ ChP sv cw cs := fun h => a1 (by have := h.1; omega)
      simp [a0, a1, this]
  · simp [a0]

open Classical in
theorem startS_eq (hk : 2000000 ≤ k) (h1 : Mx mv) (h2 : Mx sv) (hc : Sh cs) (hw : cw.length ≤ 100000) {st : Int} : spec_l11Start.f k mv sv st cw cs = some (decide (DrP mv sv st cw cs)) := by
  have n1 := h1.1
  simp only [spec_l11Start.f, spec_l11Start.B, chancesS_eq hk h1 h2 hc hw, in_eq, Option.bind_some]
  rw [w64_id (n := (mv.length : Int) - 1) (by omega) (by omega)]
  by_cases a1 : GoodP mv sv ∧ ChP sv cw cs
  · simp only [a1, decide_true, cond_true, and_self]
    congr 1
    rw [decide_eq_decide]
    exact ⟨fun h => ⟨⟨a1.1, by omega, by simp, by simp⟩, a1.2⟩, fun h => by have := h.1.2.1; omega⟩
  · have : ¬ DrP mv sv st cw cs := fun h => a1 ⟨h.1.1, h.2⟩
    simp [a1, this]

/-- the state that a best reply goes to -/
def nx (mv sv : List (List Int)) (cw : List Int) (cs : List (List Int)) (m : Nat) (a : Int) (s : List Int) (r : Int) : Int :=
  (rp (fun b => Wt cw cs (s ++ [r]) * co mv sv a b r + On mv sv cw cs m b (s ++ [r])) (srv sv r) (-1, 1073741824)).1

theorem ChP.len6 (hc : ChP sv cw cs) : (cs.getD 0 []).length ≤ 6 := by
  have hcl := hc.1
  exact (hc.2.2.2 _ (getD_mem (i := 0) (d := []) (by omega) (by omega))).1

theorem brI (hk : 2000000 ≤ k) (h1 : Mx mv) (h2 : Mx sv) (hsh : Sh cs) {st : Int} (h : DrP mv sv st cw cs) {s : List Int} {r : Int} (hr : 0 ≤ r ∧ r < (sv.length : Int)) {m : Nat} (hm : s.length + 1 + m = (cs.getD 0 []).length) (hW : Wt cw cs (s ++ [r]) ≠ 0) :
    impl_BestReply.f k mv sv st cw cs (s ++ [r]) = some (nx mv sv cw cs m st s r, true) := by
  have h6 := h.2.len6
  have hcl := h.2.2.1
  have hcl2 := h.2.1
  simp only [impl_BestReply.f, impl_BestReply.B]
  rw [drawn_eq hk h1 h2 hsh (by omega), begin_eq hk hsh hcl (fun x hx => by have := h.2.2.2.1 x hx; omega) (by simp; omega)]
  have e : ¬ ((s ++ [r]).length : Int) = 0 := by simp; omega
  simp only [h, e, hW, decide_true, decide_false, Bool.not_true, cond_false, Option.bind_some]
  obtain ⟨k', rfl⟩ : ∃ g, k = g + 1 := ⟨k - 1, by omega⟩
  rw [reply_eq hk h.1.1 h2 hsh h.2 (m := m) (by omega) h.1.2.1 hr (by omega) fun b hb0 hb1 => onward_eq hk h.1.1 h2 hsh h.2 m k' b (s ++ [r]) (by omega) (by rw [List.length_append, List.length_singleton]; omega) (by omega) hb0 hb1]
  rfl

theorem brS (hk : 2000000 ≤ k) (h1 : Mx mv) (h2 : Mx sv) (hsh : Sh cs) {st : Int} (h : DrP mv sv st cw cs) {s : List Int} {r : Int} (hr : 0 ≤ r ∧ r < (sv.length : Int)) {m : Nat} (hm : s.length + 1 + m = (cs.getD 0 []).length) (hW : Wt cw cs (s ++ [r]) ≠ 0) :
    spec_BestReply.f k mv sv st cw cs (s ++ [r]) = some (nx mv sv cw cs m st s r, true) := by
  have h6 := h.2.len6
  have hcl := h.2.2.1
  have hcl2 := h.2.1
  simp only [spec_BestReply.f, spec_BestReply.B]
  rw [startS_eq hk h1 h2 hsh (by omega), weightS_eq hk hsh hcl (fun x hx => by have := h.2.2.2.1 x hx; omega)]
  have e : ¬ ((s ++ [r]).length : Int) = 0 := by simp; omega
  simp only [h, e, hW, decide_true, decide_false, Bool.not_true, cond_false, Option.bind_some]
  obtain ⟨k', rfl⟩ : ∃ g, k = g + 1 := ⟨k - 1, by omega⟩
  rw [replyS_eq hk h.1.1 hsh h.2 (m := m) (by omega) h.1.2.1 hr (by omega) fun b hb0 hb1 => aheadS_eq hk h.1.1 hsh h.2 m k' b (s ++ [r]) (by omega) (by rw [List.length_append, List.length_singleton]; omega) (by omega) hb0 hb1]
  rfl

/-- what has a weight is the beginning of a sequence -/
theorem Wt_form (hc : ChP sv cw cs) {seen : List Int} (h0 : seen ≠ []) (hW : Wt cw cs seen ≠ 0) : ∃ s r m, seen = s ++ [r] ∧ (0 ≤ r ∧ r < (sv.length : Int)) ∧ s.length + 1 + m = (cs.getD 0 []).length := by
  have : ∃ p ∈ cw.zip cs, p.2.take seen.length = seen := by
    refine Classical.byContradiction fun hn => hW ?_
    unfold Wt
    have : ∀ x ∈ ((cw.zip cs).map fun p => if p.2.take seen.length = seen then p.1 else 0), x = 0 := by
      intro x hx
      obtain ⟨p, hp, rfl⟩ := List.mem_map.1 hx
      exact if_neg fun e => hn ⟨p, hp, e⟩
    have hN : Nn 0 ((cw.zip cs).map fun p => if p.2.take seen.length = seen then p.1 else 0) := fun x hx => by have := this x hx; omega
    have := hN.sum
    omega
  obtain ⟨p, hp, e⟩ := this
  have hq := hc.2.2.2 p.2 (List.of_mem_zip hp).2
  have hl := congrArg List.length e
  rw [List.length_take] at hl
  refine ⟨seen.dropLast, seen.getLast h0, (cs.getD 0 []).length - seen.length, (List.dropLast_concat_getLast h0).symm, ?_, ?_⟩
  · refine hq.2.2 _ (List.mem_of_mem_take (i := seen.length) ?_)
    rw [e]; exact List.getLast_mem h0
  · have := hq.2.1
    have hpos := List.length_pos_iff.2 h0
    rw [List.length_dropLast]; omega

theorem br_eq (hk : 2000000 ≤ k) (h1 : Mx mv) (h2 : Mx sv) (hsh : Sh cs) (hw : cw.length ≤ 100000) {st : Int} {seen : List Int} (hs : seen.length ≤ 1000) :
    ∃ x, impl_BestReply.f k mv sv st cw cs seen = some x ∧ spec_BestReply.f k mv sv st cw cs seen = some x := by
  by_cases hD : DrP mv sv st cw cs
  · by_cases h0 : seen = []
    · refine ⟨(0, false), ?_, ?_⟩
      · simp only [impl_BestReply.f, impl_BestReply.B, drawn_eq hk h1 h2 hsh hw]
        simp [hD, h0]
      · simp only [spec_BestReply.f, spec_BestReply.B, startS_eq hk h1 h2 hsh hw]
        simp [hD, h0]
    · have e : ¬ (seen.length : Int) = 0 := by have := List.length_pos_iff.2 h0; omega
      have hcl := hD.2.2.1
      by_cases hW : Wt cw cs seen = 0
      · refine ⟨(0, false), ?_, ?_⟩
        · simp only [impl_BestReply.f, impl_BestReply.B, drawn_eq hk h1 h2 hsh hw]
          rw [begin_eq hk hsh hcl (fun x hx => by have := hD.2.2.2.1 x hx; omega) (by omega)]
          simp [hD, hW]
        · simp only [spec_BestReply.f, spec_BestReply.B, startS_eq hk h1 h2 hsh hw]
          rw [weightS_eq hk hsh hcl (fun x hx => by have := hD.2.2.2.1 x hx; omega)]
          simp [hD, hW]
      · obtain ⟨s, r, m, rfl, hr, hm⟩ := Wt_form hD.2 h0 hW
        exact ⟨_, brI hk h1 h2 hsh hD hr hm hW, brS hk h1 h2 hsh hD hr hm hW⟩
  · refine ⟨(0, false), ?_, ?_⟩
    · simp only [impl_BestReply.f, impl_BestReply.B, drawn_eq hk h1 h2 hsh hw]
      simp [hD]
    · simp only [spec_BestReply.f, spec_BestReply.B, startS_eq hk h1 h2 hsh hw]
      simp [hD]

/-! what the replies cost -/
theorem rp_mem (g : Int → Int) : ∀ (l : List Int) (p : Int × Int), rp g l p = p ∨ ((rp g l p).1 ∈ l ∧ (rp g l p).2 = g (rp g l p).1)
  | [], p => .inl rfl
  | b :: l, p => by
    show rp g l (if g b < p.2 then (b, g b) else p) = p ∨ ((rp g l (if g b < p.2 then (b, g b) else p)).1 ∈ b :: l ∧ (rp g l (if g b < p.2 then (b, g b) else p)).2 = g (rp g l (if g b < p.2 then (b, g b) else p)).1)
    rcases rp_mem g l (if g b < p.2 then (b, g b) else p) with h | h
    · rw [h]
      split
      · exact .inr ⟨by simp, rfl⟩
      · exact .inl rfl
    · exact .inr ⟨List.mem_cons_of_mem _ h.1, h.2⟩

theorem nx_ok (hg : GoodP mv sv) (hc : ChP sv cw cs) {m : Nat} (hm : m ≤ 5) {a r : Int} (ha : 0 ≤ a ∧ a < (mv.length : Int)) (hr : 0 ≤ r ∧ r < (sv.length : Int)) (s : List Int) :
    nx mv sv cw cs m a s r ∈ srv sv r ∧
    (best sv r fun b => Wt cw cs (s ++ [r]) * co mv sv a b r + On mv sv cw cs m b (s ++ [r])) = Wt cw cs (s ++ [r]) * co mv sv a (nx mv sv cw cs m a s r) r + On mv sv cw cs m (nx mv sv cw cs m a s r) (s ++ [r]) := by
  have hB := OnB_bd (show m ≤ 6 by omega)
  have hb := best_bd (hg.row hr).2.1 (On_g hg hc (On_bd hg hc m) ha hr (s ++ [r]) (s ++ [r]))
  have hbest := rp_best hg hc hm ha hr (s ++ [r])
  rcases rp_mem (fun b => Wt cw cs (s ++ [r]) * co mv sv a b r + On mv sv cw cs m b (s ++ [r])) (srv sv r) (-1, 1073741824) with h | h
  · rw [h] at hbest
    dsimp only at hbest
    omega
  · exact ⟨h.1, by rw [← hbest, h.2]; rfl⟩

/-- what the replies cost along a sequence -/
def pth (mv sv : List (List Int)) (cw : List Int) (cs : List (List Int)) : List Int → Int → List Int → Int
  | [], _, _ => 0
  | r :: q, a, s => co mv sv a (nx mv sv cw cs q.length a s r) r + pth mv sv cw cs q (nx mv sv cw cs q.length a s r) (s ++ [r])

theorem sum_add {α : Type} (f g : α → Int) : ∀ l : List α, (l.map fun x => f x + g x).sum = (l.map f).sum + (l.map g).sum
  | [] => rfl
  | x :: l => by simp only [List.map_cons, List.sum_cons]; rw [sum_add f g l]; omega
theorem sum_swap {α β : Type} (F : α → β → Int) (ys : List β) : ∀ xs : List α, (xs.map fun x => (ys.map fun y => F x y).sum).sum = (ys.map fun y => (xs.map fun x => F x y).sum).sum
  | [] => by
    have : ∀ ys : List β, (ys.map fun _ => (0 : Int)).sum = 0 := fun ys => by
      induction ys with
      | nil => rfl
      | cons y l ih => simpa using ih
    simp [this]
  | x :: xs => by
    simp only [List.map_cons, List.sum_cons]
    rw [sum_swap F ys xs, sum_add]
theorem sum_cmul {α : Type} (c : Int) (f : α → Int) : ∀ l : List α, (l.map fun x => c * f x).sum = c * (l.map f).sum
  | [] => by simp
  | x :: l => by simp only [List.map_cons, List.sum_cons]; rw [sum_cmul c f l, Int.mul_add]
theorem sum_zero' {α : Type} {f : α → Int} : ∀ l : List α, (∀ x ∈ l, f x = 0) → (l.map f).sum = 0
  | [], _ => rfl
  | x :: l, h => by
    rw [List.map_cons, List.sum_cons, h x (by simp), sum_zero' l fun y hy => h y (List.mem_cons_of_mem _ hy)]; rfl

theorem On_pth (hg : GoodP mv sv) (hc : ChP sv cw cs) : ∀ (m : Nat) (a : Int) (s : List Int), s.length + m = (cs.getD 0 []).length → 0 ≤ a → a < (mv.length : Int) →
    On mv sv cw cs m a s = ((cw.zip cs).map fun p => if p.2.take s.length = s then p.1 * pth mv sv cw cs (p.2.drop s.length) a s else 0).sum := by
  have h6 := hc.len6
  intro m
  induction m with
  | zero =>
    intro a s hl h0 h1
    rw [sum_zero']
    · rfl
    · intro p hp
      have hq := (hc.2.2.2 p.2 (List.of_mem_zip hp).2).2.1
      rw [List.drop_eq_nil_of_le (by omega)]
      simp [pth]
  | succ m ih =>
    intro a s hl h0 h1
    have term : ∀ r ∈ idx sv.length, (if 0 < Wt cw cs (s ++ [r]) then best sv r fun b => Wt cw cs (s ++ [r]) * co mv sv a b r + On mv sv cw cs m b (s ++ [r]) else 0) =
        ((cw.zip cs).map fun p => if p.2.take (s.length + 1) = s ++ [r] then p.1 * (co mv sv a (nx mv sv cw cs m a s r) r + pth mv sv cw cs (p.2.drop (s.length + 1)) (nx mv sv cw cs m a s r) (s ++ [r])) else 0).sum := by
      intro r hr
      rw [idx_mem] at hr
      have hn := nx_ok hg hc (m := m) (by omega) ⟨h0, h1⟩ hr s
      have hb := (hg.srv hr hn.1).1
      have hlen : (s ++ [r]).length = s.length + 1 := by simp
      split
      · rw [hn.2, ih _ (s ++ [r]) (by omega) hb.1 hb.2, hlen, Int.mul_comm]
        unfold Wt
        rw [hlen, ← sum_cmul, ← sum_add]
        refine congrArg List.sum (List.map_congr_left fun p _ => ?_)
        split
        · rw [Int.mul_add, Int.mul_comm]
        · simp
      · rename_i hW
        rw [sum_zero']
        intro p hp
        refine if_neg fun e => hW ?_
        have hN : Nn 9 ((cw.zip cs).map fun p => if p.2.take (s ++ [r]).length = s ++ [r] then p.1 else 0) := by
          intro x hx
          obtain ⟨p, hp, rfl⟩ := List.mem_map.1 hx
          have := hc.2.2.1 p.1 (List.of_mem_zip hp).1
          split <;> omega
        have hmem : p.1 ∈ ((cw.zip cs).map fun p => if p.2.take (s ++ [r]).length = s ++ [r] then p.1 else 0) := List.mem_map.2 ⟨p, hp, by rw [hlen, if_pos e]⟩
        have hp1 := hc.2.2.1 p.1 (List.of_mem_zip hp).1
        have : ∀ (l : List Int), Nn 9 l → ∀ x ∈ l, x ≤ l.sum := by
          intro l
          induction l with
          | nil => intro _ x hx; simp at hx
          | cons y l ih =>
            intro hN x hx
            have hl : Nn 9 l := fun z hz => hN z (List.mem_cons_of_mem _ hz)
            have hy := hN y (by simp)
            have hs := hl.sum
            rw [List.sum_cons]
            rcases List.mem_cons.1 hx with rfl | hx
            · omega
            · have := ih hl x hx; omega
        have := this _ hN _ hmem
        unfold Wt; omega
    simp only [On]
    rw [List.map_congr_left term, sum_swap]
    refine congrArg List.sum (List.map_congr_left fun p hp => ?_)
    have hq := hc.2.2.2 p.2 (List.of_mem_zip hp).2
    have hq1 := hq.2.1
    have hlt : (s.length : Int) < p.2.length := by omega
    have htk := take_at (l := p.2) (i := (s.length : Int)) (d := 0) (by omega) hlt
    have hdr := drop_at (l := p.2) (i := (s.length : Int)) (d := 0) (by omega) hlt
    rw [show ((s.length : Int) + 1).toNat = s.length + 1 by omega, Int.toNat_natCast] at htk hdr
    have hr0 := hq.2.2 _ (getD_mem (l := p.2) (i := (s.length : Int)) (d := 0) (by omega) hlt)
    rw [Int.toNat_natCast] at hr0
    rw [htk]
    by_cases he : p.2.take s.length = s
    · rw [if_pos he, he, hdr, sum_one (r := p.2.getD s.length 0) hr0.1 hr0.2 fun x hx => ?_]
      · rw [if_pos rfl]
        have : (p.2.drop (s.length + 1)).length = m := by rw [List.length_drop]; omega
        simp only [pth, this]
      · refine if_neg fun e => hx ?_
        have := List.append_cancel_left e
        simpa using this.symm
    · rw [if_neg he, sum_zero]
      intro x _
      refine if_neg fun e => he ?_
      exact (List.append_inj' e rfl).1
end
end Go.Proofs.Ytobfbgmglopdhaa
namespace Go.Proofs.Ytobfbgmglopdhaa
open Ab Pl

section
variable {k : Nat}

theorem divisor_dvd : ∀ (m f : Nat) (a b : Int), b ≤ m → m + 1 ≤ f → 0 ≤ a → 0 ≤ b → (0 < a ∨ 0 < b) → OK (impl_divisor.bs k f a b) fun r => 0 < r ∧ r ∣ a ∧ r ∣ b := by
  intro m
  induction m with
  | zero =>
    intro f a b hb hf h0 h1 h2
    obtain ⟨f, rfl⟩ : ∃ g, f = g + 1 := ⟨f - 1, by omega⟩
    simp only [impl_divisor.bs, impl_divisor.B1]
    refine OK.bif (fun h => by omega) fun _ => OK.ret ⟨by omega, Int.dvd_refl _, ?_⟩
    rw [show b = 0 by omega]; exact Int.dvd_zero _
  | succ m ih =>
    intro f a b hb hf h0 h1 h2
    obtain ⟨f, rfl⟩ : ∃ g, f = g + 1 := ⟨f - 1, by omega⟩
    simp only [impl_divisor.bs, impl_divisor.B1]
    refine OK.bif (fun h => OK.req (by omega) ?_) fun h => OK.ret ⟨by omega, Int.dvd_refl _, by rw [show b = 0 by omega]; exact Int.dvd_zero _⟩
    have l1 := Int.tmod_nonneg b h0
    have l2 := Int.tmod_lt_of_pos a h
    refine (ih f b _ (by omega) (by omega) (by omega) l1 (.inl h)).mono fun r hr => ⟨hr.1, ?_, hr.2.1⟩
    have e := Int.tmod_add_mul_tdiv a b
    rw [← e]
    exact Int.dvd_add hr.2.2 (Int.dvd_trans hr.2.1 (Int.dvd_mul_right _ _))

theorem make_val (hk : 2000000 ≤ k) {a b : Int} (ha : 0 ≤ a ∧ a ≤ 1000000000000000) (hb : 1 ≤ b ∧ b ≤ 1000000) :
    OK (impl_makeFrac.f k a b) fun x => x.2.2 = true → x.1 * b = a * x.2.1 := by
  simp only [impl_makeFrac.f, impl_makeFrac.B, size_eq, Option.bind_some]
  rw [w64_id (n := 0 - a) (by omega) (by omega), show max a (0 - a) = a by omega]
  refine OK.bind (divisor_dvd 1000000 k _ b (by omega) (by omega) (by omega) (by omega) (by omega)) fun r hr => ?_
  obtain ⟨hr0, ⟨u, rfl⟩, v, rfl⟩ := hr
  refine OK.req (by omega) (OK.req (by omega) (OK.bind (isFrac_ok hk _ _) fun t _ => ?_))
  rw [Int.mul_tdiv_cancel_left _ (by omega : r ≠ 0), Int.mul_tdiv_cancel_left _ (by omega : r ≠ 0)]
  have hu : 0 ≤ u := Int.nonneg_of_mul_nonneg_right ha.1 hr0
  have hv : 0 ≤ v := Int.nonneg_of_mul_nonneg_right (by omega : 0 ≤ r * v) hr0
  have hu2 : 1 * u ≤ r * u := Int.mul_le_mul_of_nonneg_right (by omega) hu
  have hv2 : 1 * v ≤ r * v := Int.mul_le_mul_of_nonneg_right (by omega) hv
  rw [w64_id (n := u) (by omega) (by omega), w64_id (n := v) (by omega) (by omega)]
  refine OK.bifn (fun _ => OK.ret fun h => absurd h (by simp)) fun _ => OK.ret fun _ => ?_
  dsimp only
  rw [← Int.mul_assoc, Int.mul_comm u r]

/-! the drawn chances -/
variable {code : List Int} {n : Int} {mv sv y1 : List (List Int)} {y0 y2 : List Int} {A : Int}
theorem with_eq {l : List Int} {i x : Int} (hl : l.length ≤ 1000000) (h0 : 0 ≤ i) (h1 : i < (l.length : Int)) : spec_l4With.f l i x = some (l.set i.toNat x) := by
  simp only [spec_l4With.f, spec_l4With.B, own_eq hl, Option.bind_some]
  rw [if_pos ⟨h0, h1⟩]

def Al (n : Int) (cs : List (List Int)) : Prop := ∀ q ∈ cs, (q.length : Int) = n
theorem Al.snoc {cs : List (List Int)} {q : List Int} (h : Al n cs) (hq : (q.length : Int) = n) : Al n (cs ++ [q]) := fun x hx => (List.mem_append.1 hx).elim (h x) fun hx => by rw [List.mem_singleton.1 hx]; exact hq

def DrawnP (code : List Int) (A : Int) (r : List Int × Int × Int × List Int × List (List Int)) : Prop :=
  r.1 = code ∧ 0 ≤ r.2.1 ∧ r.2.1 ≤ A ∧ r.2.2.2.1.length ≤ 2000 ∧ r.2.2.2.2.length ≤ 100 ∧ ∀ q ∈ r.2.2.2.2, q.length ≤ 100

theorem chances_7 (hk : 2000000 ≤ k) (hb : By code) (hn : 0 ≤ n ∧ n ≤ 5) (hA : A ≤ 1000000) {x7 : Int} {cs : List (List Int)} (hcs : Al n cs ∧ cs.length ≤ 50) {P : List Int × Int × Int × List Int × List (List Int) → Prop} {m : Nat}
    (hc : ∀ f a s cs', m ≤ f → 0 ≤ a → a ≤ A → cs'.length = cs.length + 1 → Al n cs' → OK ((spec_l1Cur_chances.bs k f).1 n (w64 (x7 - 1)) code a s mv sv y0 y1 y2 cs') P) :
    ∀ (d f : Nat) (a s : Int) (q : List Int), m + d + 1 ≤ f → (q.length : Int) + d = n → 0 ≤ a → a + 2 * d + 4 ≤ A →
      OK ((spec_l1Cur_chances.bs k f).2 n x7 code a s mv sv y0 y1 y2 cs q) P := by
  intro d
  induction d with
  | zero =>
    intro f a s q hf hq h0 h1
    obtain ⟨f, rfl⟩ : ∃ g, f = g + 1 := ⟨f - 1, by omega⟩
    simp only [spec_l1Cur_chances.bs, spec_l1Cur_chances.B7]
    refine OK.bif (fun h => by omega) fun _ => OK.bif (fun hpos => OK.bif (fun hn0 => ?_) fun _ => ?_) fun _ => ?_
    · refine OK.bind (one_ok hb h0 (by omega)) ?_
      rintro ⟨o, c, a2, s2⟩ ⟨rfl, r3, r4⟩
      dsimp only at r3 r4 ⊢
      refine OK.bifb (fun _ => ?_) fun _ => OK.req (by rw [capB_eq]; omega) (hc f _ _ _ (by omega) (by omega) (by omega) (by simp) (hcs.1.snoc (by omega)))
      rw [w64_id (n := (cs.length : Int) - 1) (by omega) (by omega), w64_id (n := n - 1) (by omega) (by omega)]
      have hlast := hcs.1 _ (getD_mem (l := cs) (i := (cs.length : Int) - 1) (d := []) (by omega) (by omega))
      refine OK.req (by omega) (OK.req (by omega) ?_)
      rw [with_eq (by omega) (by omega) (by omega)]
      exact OK.req (by rw [capB_eq]; omega) (hc f _ _ _ (by omega) (by omega) (by omega) (by simp) (hcs.1.snoc (by rw [List.length_set]; omega)))
    · exact OK.req (by rw [capB_eq]; omega) (hc f _ _ _ (by omega) (by omega) (by omega) (by simp) (hcs.1.snoc (by omega)))
    · exact OK.req (by rw [capB_eq]; omega) (hc f _ _ _ (by omega) (by omega) (by omega) (by simp) (hcs.1.snoc (by omega)))
  | succ d ih =>
    intro f a s q hf hq h0 h1
    obtain ⟨f, rfl⟩ : ∃ g, f = g + 1 := ⟨f - 1, by omega⟩
    simp only [spec_l1Cur_chances.bs, spec_l1Cur_chances.B7]
    refine OK.bif (fun h => ?_) fun _ => by omega
    simp only [most_eq, Option.bind_some]
    refine OK.bind (pick_ok hb h0 (by omega)) ?_
    rintro ⟨v, c, a2, s2⟩ ⟨_, _, _, rfl, q3, q4⟩
    dsimp only at q3 q4 ⊢
    exact OK.req (by rw [capB_eq]; omega) (ih f _ _ _ (by omega) (by simp; omega) (by omega) (by omega))

theorem set_all {cs : List (List Int)} {q : List Int} {i : Nat} (h : ∀ q ∈ cs, q.length ≤ 100) (hq : q.length ≤ 100) : ∀ q' ∈ cs.set i q, q'.length ≤ 100 := fun x hx => by
  rcases List.mem_or_eq_of_mem_set hx with hx | rfl
  · exact h x hx
  · exact hq

theorem chances_4 (hk : 2000000 ≤ k) (hb : By code) (hn : 0 ≤ n ∧ n ≤ 5) :
    ∀ (d f : Nat) (a s : Int) (cs : List (List Int)), 10 * (d + 1) ≤ f → cs.length + d ≤ 13 → Al n cs → 0 ≤ a → a + 16 * d ≤ 10000 →
      OK ((spec_l1Cur_chances.bs k f).1 n d code a s mv sv y0 y1 y2 cs) (DrawnP code 100000) := by
  intro d
  induction d with
  | zero =>
    intro f a s cs hf hcl hcs h0 h1
    obtain ⟨f, rfl⟩ : ∃ g, f = g + 1 := ⟨f - 1, by omega⟩
    simp only [spec_l1Cur_chances.bs, spec_l1Cur_chances.B4]
    refine OK.bif (fun h => by omega) fun _ => OK.bind (weights11_ok hb hk (by omega) h0 (by omega)) ?_
    rintro ⟨c, a2, s2, ws⟩ ⟨rfl, q3, q4, q5⟩
    dsimp only at q3 q4 q5 ⊢
    have hall : ∀ q ∈ cs, q.length ≤ 100 := fun q hq => by have := hcs q hq; omega
    refine OK.bif (fun hpos => OK.bind (pick_ok hb q3 (by omega)) ?_) fun _ => OK.ret ⟨rfl, q3, by dsimp only; omega, q5, by dsimp only; omega, hall⟩
    rintro ⟨v, c, a3, s3⟩ ⟨_, _, _, rfl, r3, r4⟩
    dsimp only at r3 r4 ⊢
    have h0l := hcs _ (getD_mem (l := cs) (i := 0) (d := []) (by omega) hpos)
    rw [Int.toNat_zero] at h0l
    refine OK.bif (fun _ => OK.req (by omega) ?_) fun _ => OK.bif (fun _ => ?_) fun _ => OK.bif (fun _ => OK.req (by omega) ?_) fun _ => OK.ret ⟨rfl, by dsimp only; omega, by dsimp only; omega, q5, by dsimp only; omega, hall⟩
    · rw [own_eq (by omega)]
      refine OK.req (by rw [capB_eq]; omega) (OK.req (by omega) (OK.ret ⟨rfl, by dsimp only; omega, by dsimp only; omega, q5, by simp; omega, set_all hall (by rw [List.length_append, List.length_singleton]; omega)⟩))
    · refine OK.bind (pick_ok hb (by omega) (by omega)) ?_
      rintro ⟨v, c, a4, s4⟩ ⟨u1, u2, _, rfl, u3, u4⟩
      dsimp only at u1 u2 u3 u4 ⊢
      have u2 := u2 (by omega)
      rw [w64_id (n := 5 + v) (by omega) (by omega)]
      refine OK.req (by omega) (OK.req (by omega) (OK.ret ⟨rfl, by dsimp only; omega, by dsimp only; omega, q5, by simp; omega, set_all hall (by simp; omega)⟩))
    · rw [own_eq (by omega)]
      simp only [Option.bind_some]
      refine OK.bind (among_ok hb (by simp) (by omega) (by omega)) ?_
      rintro ⟨v, c, a4, s4⟩ ⟨_, rfl, u3, u4⟩
      dsimp only at u3 u4 ⊢
      refine OK.req (by rw [capB_eq]; omega) (OK.req (by omega) (OK.ret ⟨rfl, by dsimp only; omega, by dsimp only; omega, q5, by simp; omega, set_all hall (by rw [List.length_append, List.length_singleton]; omega)⟩))
  | succ d ih =>
    intro f a s cs hf hcl hcs h0 h1
    obtain ⟨f, rfl⟩ : ∃ g, f = g + 1 := ⟨f - 1, by omega⟩
    simp only [spec_l1Cur_chances.bs, spec_l1Cur_chances.B4]
    refine OK.bif (fun _ => ?_) fun h => by omega
    refine chances_7 (A := a + 16) hk hb hn (by omega) ⟨hcs, by omega⟩ (m := 10 * (d + 1)) (fun f a' s' cs' hf' h0' h1' hl hal => ?_) n.toNat f a s [] (by omega) (by simp; omega) h0 (by omega)
    rw [w64_id (n := ((d + 1 : Nat) : Int) - 1) (by omega) (by omega), show ((d + 1 : Nat) : Int) - 1 = d by omega]
    exact ih f a' s' cs' hf' (by omega) hal h0' (by omega)

theorem chances_ok (hk : 2000000 ≤ k) (hb : By code) {a s : Int} (h0 : 0 ≤ a) (h1 : a ≤ 1000) : OK (spec_l1Cur_chances.f k mv sv code a s) (DrawnP code 100000) := by
  simp only [spec_l1Cur_chances.f, spec_l1Cur_chances.B]
  refine OK.bind (among_ok hb (by simp) h0 (by omega)) ?_
  rintro ⟨n, c, a2, s2⟩ ⟨p1, rfl, p3, p4⟩
  dsimp only at p1 p3 p4 ⊢
  refine OK.bind (pick_ok hb (by omega) (by omega)) ?_
  rintro ⟨v, c, a3, s3⟩ ⟨v1, v2, _, rfl, v3, v4⟩
  dsimp only at v1 v2 v3 v4 ⊢
  have v2 := v2 (by omega)
  have hd : 0 ≤ Int.tdiv v 6 ∧ Int.tdiv v 6 ≤ 2 := by
    rw [Int.tdiv_eq_ediv_of_nonneg v1]; omega
  rw [w64_id (n := Int.tdiv v 6) (by omega) (by omega), w64_id (n := 7 + Int.tdiv v 6) (by omega) (by omega)]
  refine OK.req (by omega) (OK.req (by omega) (OK.bind (among_ok hb (by simp; omega) (by omega) (by omega)) ?_))
  rintro ⟨x, c, a4, s4⟩ ⟨w1, rfl, w3, w4⟩
  dsimp only at w1 w3 w4 ⊢
  have w1 := List.mem_of_mem_drop (List.mem_of_mem_take w1)
  have hn : 0 ≤ n ∧ n ≤ 5 := by simp at p1; omega
  have hx : 0 ≤ x ∧ x ≤ 13 := by simp at w1; omega
  obtain ⟨x, rfl⟩ := Int.eq_ofNat_of_zero_le hx.1
  exact chances_4 hk hb hn x k _ _ [] (by omega) (by simp; omega) (fun q hq => by simp at hq) (by omega) (by omega)

theorem drawBR_ok (hb : By code) (hk : 2000000 ≤ k) : OK (spec_DrawBestReply.f k code) fun r => Mx r.1 ∧ Mx r.2.1 ∧ r.2.2.2.1.length ≤ 100000 ∧ Sh r.2.2.2.2.1 ∧ r.2.2.2.2.2.length ≤ 1000 := by
  simp only [spec_DrawBestReply.f, spec_DrawBestReply.B]
  refine OK.bind (problem_ok hk hb (by omega) (by omega)) ?_
  rintro ⟨sv, c, a, s, mv⟩ ⟨p1, p2, p3, p4, p5, p6, p7⟩
  dsimp only at p1 p2 p3 p4 p5 p6 p7 ⊢
  subst p3
  refine OK.bind (chances_ok hk hb (by omega) (by omega)) ?_
  rintro ⟨c, a2, s2, cw, cs⟩ ⟨rfl, q2, q3, q4, q5, q6⟩
  dsimp only at q2 q3 q4 q5 q6 ⊢
  have hsh : Sh cs := ⟨by omega, fun q hq => by have := q6 q hq; omega⟩
  have tail : ∀ (a s : Int) (seen : List Int), 0 ≤ a → a ≤ 1000000 → seen.length ≤ 500 →
      OK ((spec_l1Cur_one.f 8 c a s).bind fun t6 => (bif t6.1 then ((spec_l1Cur_pick.f 3 t6.2.1 t6.2.2.1 t6.2.2.2).bind fun t7 => (if seen.length + 1 ≤ capB then ((spec_l1Cur_state8.f mv sv t7.2.1 t7.2.2.1 t7.2.2.2).bind fun t8 => some (mv, sv, t8.1, cw, cs, seen ++ [t7.1])) else none)) else ((spec_l1Cur_state8.f mv sv t6.2.1 t6.2.2.1 t6.2.2.2).bind fun t9 => some (mv, sv, t9.1, cw, cs, seen))))
        fun r => Mx r.1 ∧ Mx r.2.1 ∧ r.2.2.2.1.length ≤ 100000 ∧ Sh r.2.2.2.2.1 ∧ r.2.2.2.2.2.length ≤ 1000 := by
    intro a s seen h0 h1 hs
    refine OK.bind (one_ok hb h0 (by omega)) ?_
    rintro ⟨o, c, a3, s3⟩ ⟨rfl, r3, r4⟩
    dsimp only at r3 r4 ⊢
    refine OK.bifb (fun _ => OK.bind (pick_ok hb (by omega) (by omega)) ?_) fun _ => OK.bind (state8_ok hb (by omega) (by omega)) ?_
    · rintro ⟨v, c, a4, s4⟩ ⟨_, _, _, rfl, u3, u4⟩
      dsimp only at u3 u4 ⊢
      refine OK.req (by rw [capB_eq]; omega) (OK.bind (state8_ok hb (by omega) (by omega)) ?_)
      rintro ⟨st, c, a5, s5⟩ ⟨rfl, _, _⟩
      exact OK.ret ⟨p6, p1, by dsimp only; omega, hsh, by simp; omega⟩
    · rintro ⟨st, c, a5, s5⟩ ⟨rfl, _, _⟩
      exact OK.ret ⟨p6, p1, by dsimp only; omega, hsh, by dsimp only; omega⟩
  refine OK.bif (fun hpos => OK.bind (pick_ok hb q2 (by omega)) ?_) fun _ => tail a2 s2 [] q2 (by omega) (by simp)
  rintro ⟨v, c, a3, s3⟩ ⟨v1, v2, _, rfl, v3, v4⟩
  dsimp only at v1 v2 v3 v4 ⊢
  have v2 := v2 (by omega)
  have hq := q6 _ (getD_mem (l := cs) (d := []) v1 v2)
  refine OK.req ⟨v1, v2⟩ ?_
  generalize cs.getD v.toNat [] = q at hq
  rw [w64_id (n := (q.length : Int) + 1) (by omega) (by omega)]
  refine OK.bind (pick_ok hb (by omega) (by omega)) ?_
  rintro ⟨u, c, a4, s4⟩ ⟨u1, u2, _, rfl, u3, u4⟩
  dsimp only at u1 u2 u3 u4 ⊢
  have u2 := u2 (by omega)
  refine OK.req (by omega) ?_
  rw [own_eq (by rw [List.length_take]; omega)]
  exact tail a4 s4 _ (by omega) (by omega) (by rw [List.length_take]; omega)
end
end Go.Proofs.Ytobfbgmglopdhaa
namespace Go.Proofs.Ytobfbgmglopdhaa
open Ab Pl

section
variable {mv sv cs : List (List Int)} {cw : List Int} {k : Nat}

theorem vSum_eq (hk : 2000000 ≤ k) {l : List Int} (hl : l.length ≤ 1000000) (hb : Nn 1000000 l) : laws_vSum.f k l = some l.sum := by
  simp only [laws_vSum.f, laws_vSum.B]
  have := sumLoop (L := fun f s i => laws_vSum.bs k f l s i) hl hb (fun f s i h0 h1 => ?_) (fun f s i h => ?_) l.length k 0 0 (by omega) (by omega) (by omega) (by omega) (by omega)
  · simpa using this
  · simp only [laws_vSum.bs, laws_vSum.B3, h0, h1, decide_true, cond_true, and_self, if_true]
    rw [w64_id (n := i + 1) (by omega) (by omega)]
  · have : ¬ i < (l.length : Int) := by omega
    simp only [laws_vSum.bs, laws_vSum.B3, this, decide_false, cond_false]

theorem Nn.mem_le {B : Int} : ∀ {l : List Int}, Nn B l → ∀ x ∈ l, x ≤ l.sum := by
  intro l
  induction l with
  | nil => intro _ x hx; simp at hx
  | cons y l ih =>
    intro hN x hx
    have hl : Nn B l := fun z hz => hN z (List.mem_cons_of_mem _ hz)
    have hy := hN y (by simp)
    have hs := hl.sum
    rw [List.sum_cons]
    rcases List.mem_cons.1 hx with rfl | hx
    · omega
    · have := ih hl x hx; omega

theorem Wt_pos (hc : ChP sv cw cs) {p : Int × List Int} (hp : p ∈ cw.zip cs) {seen : List Int} (he : p.2.take seen.length = seen) : Wt cw cs seen ≠ 0 := by
  have hN : Nn 9 ((cw.zip cs).map fun p => if p.2.take seen.length = seen then p.1 else 0) := by
    intro x hx
    obtain ⟨p, hp, rfl⟩ := List.mem_map.1 hx
    have := hc.2.2.1 p.1 (List.of_mem_zip hp).1
    split <;> omega
  have hmem : p.1 ∈ ((cw.zip cs).map fun p => if p.2.take seen.length = seen then p.1 else 0) := List.mem_map.2 ⟨p, hp, by rw [if_pos he]⟩
  have hp1 := hc.2.2.1 p.1 (List.of_mem_zip hp).1
  have := hN.mem_le _ hmem
  unfold Wt; omega

theorem pth_bd (hg : GoodP mv sv) (hc : ChP sv cw cs) : ∀ (q : List Int) (a : Int) (s : List Int), q.length ≤ 6 → (∀ x ∈ q, 0 ≤ x ∧ x < (sv.length : Int)) → 0 ≤ a ∧ a < (mv.length : Int) →
    0 ≤ pth mv sv cw cs q a s ∧ pth mv sv cw cs q a s ≤ 119 * q.length
  | [], a, s, _, _, _ => by simp [pth]
  | r :: q, a, s, hl, hq, ha => by
    rw [List.length_cons] at hl
    have hr := hq r (by simp)
    have hn := (nx_ok hg hc (m := q.length) (by omega) ha hr s).1
    have hb := (hg.srv hr hn).1
    have hco := hg.co ha hr hn
    have := pth_bd hg hc q _ (s ++ [r]) (by omega) (fun x hx => hq x (List.mem_cons_of_mem _ hx)) hb
    simp only [pth, List.length_cons]
    omega

theorem zip_get {i : Nat} (h1 : i < cw.length) (h2 : i < cs.length) : (cw.zip cs).getD i (0, []) = (cw.getD i 0, cs.getD i []) := by
  have e3 : i < (cw.zip cs).length := by rw [List.length_zip]; omega
  simp only [List.getD, List.getElem?_eq_getElem h1, List.getElem?_eq_getElem h2, List.getElem?_eq_getElem e3, Option.getD_some, List.getElem_zip]

variable {st x y : Int} {P : Bool → Prop}
theorem br_17 (hk : 2000000 ≤ k) (h1 : Mx mv) (h2 : Mx sv) (hsh : Sh cs) (hD : DrP mv sv st cw cs) {i : Nat} (hi : i < cs.length) {S : Int} (hS : S ≤ 1000000000) {z : Nat}
    (hc : ∀ f, z ≤ f → OK ((laws_FnBestReply.bs k f).1 st S (w64 ((i : Int) + 1)) mv sv cw cs x y) P) :
    ∀ (d f : Nat) (j : Nat) (sum a : Int), z + d + 1 ≤ f → j + d = (cs.getD i []).length → 0 ≤ a ∧ a < (mv.length : Int) → 0 ≤ sum → sum + cw.getD i 0 * pth mv sv cw cs ((cs.getD i []).drop j) a ((cs.getD i []).take j) = S →
      OK ((laws_FnBestReply.bs k f).2 st sum i a j mv sv cw cs x y) P := by
  have hg := hD.1.1
  have hcl := hD.2.2.1
  have hml := hg.1
  have hil : 0 ≤ (i : Int) ∧ (i : Int) < cs.length := by omega
  have hil2 : 0 ≤ (i : Int) ∧ (i : Int) < cw.length := by omega
  have hmem : (cw.getD i 0, cs.getD i []) ∈ cw.zip cs := by
    rw [← zip_get (by omega) hi]
    exact getD_mem (l := cw.zip cs) (i := (i : Int)) (by omega) (by rw [List.length_zip]; omega)
  have hq := hD.2.2.2.2 _ (List.of_mem_zip hmem).2
  have hw := hD.2.2.2.1 _ (List.of_mem_zip hmem).1
  have hpos : ∀ {seen : List Int}, (cs.getD i []).take seen.length = seen → Wt cw cs seen ≠ 0 := fun {seen} he => Wt_pos hD.2 (p := (cw.getD i 0, cs.getD i [])) hmem he
  have eti : (i : Int).toNat = i := Int.toNat_natCast i
  intro d
  induction d with
  | zero =>
    intro f j sum a hf hj ha hs0 hs
    obtain ⟨f, rfl⟩ : ∃ g, f = g + 1 := ⟨f - 1, by omega⟩
    simp only [laws_FnBestReply.bs, laws_FnBestReply.B17]
    rw [eti]
    refine OK.req hil (OK.bif (fun h => by omega) fun _ => ?_)
    rw [List.drop_eq_nil_of_le (by omega)] at hs
    have : sum = S := by simp only [pth] at hs; omega
    rw [this]
    exact hc f (by omega)
  | succ d ih =>
    intro f j sum a hf hj ha hs0 hs
    obtain ⟨f, rfl⟩ : ∃ g, f = g + 1 := ⟨f - 1, by omega⟩
    simp only [laws_FnBestReply.bs, laws_FnBestReply.B17]
    rw [eti]
    generalize hqq : cs.getD i [] = q at hj hs hq hpos ih
    generalize hww : cw.getD i 0 = w at hs hw ih
    have hlt : (j : Int) < q.length := by omega
    have hq0 := hq.1
    have htk := take_at (l := q) (i := (j : Int)) (d := 0) (by omega) hlt
    have hdr := drop_at (l := q) (i := (j : Int)) (d := 0) (by omega) hlt
    have hr := hq.2.2 _ (getD_mem (l := q) (i := (j : Int)) (d := 0) (by omega) hlt)
    rw [w64_id (n := (j : Int) + 1) (by omega) (by omega)]
    rw [show ((j : Int) + 1).toNat = j + 1 by omega, Int.toNat_natCast] at htk hdr
    rw [Int.toNat_natCast] at hr ⊢
    rw [show ((j : Int) + 1).toNat = j + 1 by omega, htk]
    rw [hdr] at hs
    have hW := hpos (seen := q.take (j + 1)) (by rw [List.length_take, Nat.min_eq_left (by omega)])
    rw [htk] at hW
    generalize hrr : q.getD j 0 = r at hr hW hs htk
    have hq1 := hq.2.1
    have hlen : (q.drop (j + 1)).length = d := by rw [List.length_drop]; omega
    have hDa : DrP mv sv a cw cs := ⟨⟨hg, ha, by simp, by simp⟩, hD.2⟩
    have h6 := hD.2.len6
    have hn := (nx_ok hg hD.2 (m := d) (by omega) ha hr (q.take j)).1
    have hb := (hg.srv hr hn).1
    have hco := hg.co ha hr hn
    have hsq := hg.sq.row ha.1 ha.2
    have hsrv := srv_mem hn
    have hbd := pth_bd hg hD.2 (q.drop (j + 1)) (nx mv sv cw cs d a (q.take j) r) (q.take j ++ [r]) (by omega) (fun x hx => hq.2.2 x (List.mem_of_mem_drop hx)) hb
    simp only [pth, hlen] at hs
    rw [Int.mul_add] at hs
    have hp1 := mulbd (A := 9) (show 0 ≤ w ∧ w ≤ 9 by omega) hco
    have hp2 := mulbd (A := 9) (show 0 ≤ w ∧ w ≤ 9 by omega) hbd
    refine OK.req hil (OK.bif (fun _ => OK.req hil (OK.req (by omega) ?_)) fun h => by omega)
    rw [brI hk h1 h2 hsh hDa hr (m := d) (by rw [List.length_take]; omega) hW]
    simp only [Option.bind_some]
    have e1 : (mv.getD a.toNat []).getD (nx mv sv cw cs d a (q.take j) r).toNat 0 + (sv.getD r.toNat []).getD (nx mv sv cw cs d a (q.take j) r).toNat 0 = co mv sv a (nx mv sv cw cs d a (q.take j) r) r := rfl
    rw [e1, w64_id (n := co mv sv a _ r) (by omega) (by omega), w64_id (n := w * co mv sv a _ r) (by omega) (by omega), w64_id (n := sum + _) (by omega) (by omega)]
    refine OK.bifn (fun h => by simp at h) fun _ => OK.req hil2 (OK.req ha (OK.req (by omega) (OK.req hil (OK.req (by omega) (OK.req hr (OK.req (by omega) ?_))))))
    rw [show (j : Int) + 1 = ((j + 1 : Nat) : Int) by omega]
    refine ih f (j + 1) _ _ (by omega) (by omega) hb (by omega) ?_
    rw [htk]
    omega

theorem br_13 (hk : 2000000 ≤ k) (h1 : Mx mv) (h2 : Mx sv) (hsh : Sh cs) (hD : DrP mv sv st cw cs) {T : Int} (hT : T ≤ 100000000) (hv : x * cw.sum = T * y) :
    ∀ (d f : Nat) (i : Nat) (sum : Int), 10 * (d + 1) ≤ f → i + d = cs.length → 0 ≤ sum → sum + (((cw.zip cs).drop i).map fun p => p.1 * pth mv sv cw cs p.2 st []).sum = T →
      OK ((laws_FnBestReply.bs k f).1 st sum i mv sv cw cs x y) fun r => r = true := by
  have hg := hD.1.1
  have hcl := hD.2.2.1
  have hcn := hD.2.1
  have hst := hD.1.2.1
  intro d
  induction d with
  | zero =>
    intro f i sum hf hi h0 hs
    obtain ⟨f, rfl⟩ : ∃ g, f = g + 1 := ⟨f - 1, by omega⟩
    simp only [laws_FnBestReply.bs, laws_FnBestReply.B13]
    refine OK.bif (fun h => by omega) fun _ => ?_
    rw [vSum_eq hk (by omega) (fun x hx => by have := hD.2.2.2.1 x hx; omega)]
    rw [List.drop_eq_nil_of_le (by rw [List.length_zip]; omega)] at hs
    have : sum = T := by simpa using hs
    refine OK.ret ?_
    rw [this, hv]; simp
  | succ d ih =>
    intro f i sum hf hi h0 hs
    obtain ⟨f, rfl⟩ : ∃ g, f = g + 1 := ⟨f - 1, by omega⟩
    simp only [laws_FnBestReply.bs, laws_FnBestReply.B13]
    refine OK.bif (fun _ => ?_) fun h => by omega
    have hdr := drop_at (l := cw.zip cs) (i := (i : Int)) (d := (0, [])) (by omega) (by rw [List.length_zip]; omega)
    rw [show ((i : Int) + 1).toNat = i + 1 by omega, Int.toNat_natCast, zip_get (by omega) (by omega)] at hdr
    have hmem : (cw.getD i 0, cs.getD i []) ∈ cw.zip cs := by
      rw [← zip_get (by omega) (by omega)]
      exact getD_mem (l := cw.zip cs) (i := (i : Int)) (by omega) (by rw [List.length_zip]; omega)
    have hq := hD.2.2.2.2 _ (List.of_mem_zip hmem).2
    have hw := hD.2.2.2.1 _ (List.of_mem_zip hmem).1
    rw [hdr, List.map_cons, List.sum_cons] at hs
    dsimp only at hs
    have hN : Nn 10000 (((cw.zip cs).drop (i + 1)).map fun p => p.1 * pth mv sv cw cs p.2 st []) := by
      intro v hv
      obtain ⟨p, hp, rfl⟩ := List.mem_map.1 hv
      have hp := List.mem_of_mem_drop hp
      have hq := hD.2.2.2.2 _ (List.of_mem_zip hp).2
      have hw := hD.2.2.2.1 _ (List.of_mem_zip hp).1
      have hq1 := hq.1
      have := mulbd (A := 9) (show 0 ≤ p.1 ∧ p.1 ≤ 9 by omega) (pth_bd hg hD.2 p.2 st [] hq.1 hq.2.2 hst)
      omega
    have hNs := hN.sum
    have hp := mulbd (A := 9) (show 0 ≤ cw.getD i 0 ∧ cw.getD i 0 ≤ 9 by omega) (pth_bd hg hD.2 (cs.getD i []) st [] hq.1 hq.2.2 hst)
    have hq1 := hq.1
    refine br_17 hk h1 h2 hsh hD (by omega) (S := sum + cw.getD i 0 * pth mv sv cw cs (cs.getD i []) st []) (by omega) (z := 10 * (d + 1)) (fun f hf => ?_) (cs.getD i []).length f 0 sum st (by omega) (by omega) hst h0 (by rw [List.drop_zero, List.take_zero])
    rw [w64_id (n := (i : Int) + 1) (by omega) (by omega), show (i : Int) + 1 = ((i + 1 : Nat) : Int) by omega]
    exact ih f (i + 1) _ hf (by omega) (by omega) (by omega)
end

theorem FnBestReply_pure (code : List Int) (hb : ∀ x ∈ code, 0 ≤ x ∧ x < 256) : ∃ k, laws_FnBestReply.f k code = some true := by
  obtain ⟨k, hk⟩ : ∃ k : Nat, 2000000 ≤ k := ⟨2000000, Nat.le_refl _⟩
  refine ⟨k, OK.some ?_⟩
  simp only [laws_FnBestReply.f, laws_FnBestReply.B, laws_vBig.f, laws_vBig.B, Option.bind_some]
  refine OK.bif (fun _ => OK.ret rfl) fun _ => ?_
  refine OK.bind (drawBR_ok hb hk) ?_
  rintro ⟨mv, sv, st, cw, cs, seen⟩ ⟨p1, p2, p3, p4, p5⟩
  dsimp only at p1 p2 p3 p4 p5 ⊢
  obtain ⟨v, e1, e2⟩ := br_eq hk p1 p2 p4 p3 (st := st) p5
  rw [e1, e2]
  simp only [Option.bind_some, decide_true, Bool.not_true, cond_false]
  by_cases hD : DrP mv sv st cw cs
  · rw [(bestE_eq hk p1 p2 p4 p3).1 hD]
    have hg := hD.1.1
    have hst := hD.1.2.1
    have hO := On_bd hg hD.2 (cs.getD 0 []).length st [] hst.1 hst.2
    have hB := OnB_bd hD.2.len6
    have hT := cwNn hD.2
    have hcn := hD.2.1
    refine OK.bind (make_val hk (a := On mv sv cw cs (cs.getD 0 []).length st []) (b := cw.sum) (by omega) (by omega)) fun b hb2 => ?_
    refine OK.bifn (fun h => OK.ret rfl) fun h => ?_
    refine br_13 hk p1 p2 p4 hD (T := On mv sv cw cs (cs.getD 0 []).length st []) (by omega) (hb2 h) cs.length k 0 0 (by omega) (by omega) (by omega) ?_
    rw [On_pth hg hD.2 _ st [] (by simp) hst.1 hst.2]
    simp
  · rw [(bestE_eq hk p1 p2 p4 p3).2 hD]
    exact OK.ret rfl
end Go.Proofs.Ytobfbgmglopdhaa
namespace Go.Proofs.Ytobfbgmglopdhaa
open Ab Pl

section
variable {k : Nat}

theorem divisor_gcd : ∀ (m f : Nat) (a b : Int), b ≤ m → m + 1 ≤ f → 0 ≤ a → 0 ≤ b → (0 < a ∨ 0 < b) → OK (impl_divisor.bs k f a b) fun r => 0 < r ∧ r ∣ a ∧ r ∣ b ∧ ∀ c, c ∣ a → c ∣ b → c ∣ r := by
  intro m
  induction m with
  | zero =>
    intro f a b hb hf h0 h1 h2
    obtain ⟨f, rfl⟩ : ∃ g, f = g + 1 := ⟨f - 1, by omega⟩
    simp only [impl_divisor.bs, impl_divisor.B1]
    refine OK.bif (fun h => by omega) fun _ => OK.ret ⟨by omega, Int.dvd_refl _, ?_, fun c hc _ => hc⟩
    rw [show b = 0 by omega]; exact Int.dvd_zero _
  | succ m ih =>
    intro f a b hb hf h0 h1 h2
    obtain ⟨f, rfl⟩ : ∃ g, f = g + 1 := ⟨f - 1, by omega⟩
    simp only [impl_divisor.bs, impl_divisor.B1]
    refine OK.bif (fun h => OK.req (by omega) ?_) fun h => OK.ret ⟨by omega, Int.dvd_refl _, by rw [show b = 0 by omega]; exact Int.dvd_zero _, fun c hc _ => hc⟩
    have l1 := Int.tmod_nonneg b h0
    have l2 := Int.tmod_lt_of_pos a h
    have e := Int.tmod_add_mul_tdiv a b
    refine (ih f b _ (by omega) (by omega) (by omega) l1 (.inl h)).mono fun r hr => ⟨hr.1, ?_, hr.2.1, fun c hca hcb => hr.2.2.2 c hcb ?_⟩
    · rw [← e]
      exact Int.dvd_add hr.2.2.1 (Int.dvd_trans hr.2.1 (Int.dvd_mul_right _ _))
    · have e2 : Int.tmod a b = a - b * Int.tdiv a b := by omega
      rw [e2]
      exact Int.dvd_sub hca (Int.dvd_trans hcb (Int.dvd_mul_right _ _))

theorem isFrac_yes (hk : 2000000 ≤ k) {u v : Int} (hu : 0 ≤ u ∧ u ≤ 100000000) (hv : 1 ≤ v ∧ v ≤ 100000) (hg : ∀ c, 0 < c → c ∣ u → c ∣ v → c = 1) : impl_IsFrac.f k u v = some true := by
  refine OK.some ?_
  simp only [impl_IsFrac.f, impl_IsFrac.B, within_eq, size_eq, Option.bind_some]
  refine OK.bif (fun _ => OK.bif (fun _ => ?_) fun h => by omega) fun h => by omega
  rw [w64_id (n := 0 - u) (by omega) (by omega), show max u (0 - u) = u by omega]
  refine OK.bind (divisor_gcd 1000000 k u v (by omega) (by omega) (by omega) (by omega) (by omega)) fun r hr => OK.ret ?_
  exact decide_eq_true (hg r hr.1 hr.2.1 hr.2.2.1)

theorem make_full (hk : 2000000 ≤ k) {a b : Int} (ha : 0 ≤ a ∧ a ≤ 100000000) (hb : 1 ≤ b ∧ b ≤ 100000) :
    OK (impl_makeFrac.f k a b) fun x => x.2.2 = true ∧ x.1 * b = a * x.2.1 ∧ (0 ≤ x.1 ∧ x.1 ≤ a) ∧ (1 ≤ x.2.1 ∧ x.2.1 ≤ b) := by
  simp only [impl_makeFrac.f, impl_makeFrac.B, size_eq, Option.bind_some]
  rw [w64_id (n := 0 - a) (by omega) (by omega), show max a (0 - a) = a by omega]
  refine OK.bind (divisor_gcd 1000000 k _ b (by omega) (by omega) (by omega) (by omega) (by omega)) fun r hr => ?_
  obtain ⟨hr0, ⟨u, rfl⟩, ⟨v, rfl⟩, hgr⟩ := hr
  refine OK.req (by omega) (OK.req (by omega) ?_)
  rw [Int.mul_tdiv_cancel_left _ (by omega : r ≠ 0), Int.mul_tdiv_cancel_left _ (by omega : r ≠ 0)]
  have hu : 0 ≤ u := Int.nonneg_of_mul_nonneg_right ha.1 hr0
  have hv : 0 ≤ v := Int.nonneg_of_mul_nonneg_right (by omega : 0 ≤ r * v) hr0
  have hu2 : 1 * u ≤ r * u := Int.mul_le_mul_of_nonneg_right (by omega) hu
  have hv2 : 1 * v ≤ r * v := Int.mul_le_mul_of_nonneg_right (by omega) hv
  have hv1 : 1 ≤ v := by
    rcases Int.lt_or_eq_of_le hv with h | h
    · omega
    · rw [← h] at hb; simp at hb
  rw [w64_id (n := u) (by omega) (by omega), w64_id (n := v) (by omega) (by omega)]
  rw [isFrac_yes hk (by omega) (by omega) fun c hc0 hcu hcv => ?_]
  · simp only [Option.bind_some, Bool.not_true, cond_false]
    refine OK.ret ⟨rfl, ?_, ⟨hu, by dsimp only; omega⟩, hv1, by dsimp only; omega⟩
    dsimp only
    rw [← Int.mul_assoc, Int.mul_comm u r]
  · have h1 := hgr (r * c) (Int.mul_dvd_mul_left r hcu) (Int.mul_dvd_mul_left r hcv)
    have h2 := Int.le_of_dvd hr0 h1
    have h3 : r * 1 ≤ r * c := Int.mul_le_mul_of_nonneg_left (by omega) (by omega)
    have h4 : c ≤ 1 := by
      refine Classical.byContradiction fun hn => ?_
      have h5 : r * 2 ≤ r * c := Int.mul_le_mul_of_nonneg_left (by omega) (by omega)
      omega
    omega
end

theorem sum_le {α : Type} {f g : α → Int} : ∀ l : List α, (∀ x ∈ l, f x ≤ g x) → (l.map f).sum ≤ (l.map g).sum
  | [], _ => by simp
  | x :: l, h => by
    have h1 := h x (by simp)
    have h2 := sum_le l fun y hy => h y (List.mem_cons_of_mem _ hy)
    simp only [List.map_cons, List.sum_cons]; omega

/-- an order of fractions out of their values -/
theorem frac_le {n d n' d' a b a' b' : Int} (h : n * b = a * d) (h' : n' * b' = a' * d') (hb : 1 ≤ b) (hb' : 1 ≤ b') (hd : 1 ≤ d) (hd' : 1 ≤ d') (hle : a * b' ≤ a' * b) : n * d' ≤ n' * d := by
  have hbb : 0 < b * b' := Int.mul_pos (by omega) (by omega)
  refine Int.le_of_mul_le_mul_right ?_ hbb
  have e1 : n * d' * (b * b') = a * b' * (d * d') := by
    rw [show n * d' * (b * b') = (n * b) * (d' * b') by simp only [Int.mul_assoc, Int.mul_comm, Int.mul_left_comm], h]
    simp only [Int.mul_assoc, Int.mul_comm, Int.mul_left_comm]
  have e2 : n' * d * (b * b') = a' * b * (d * d') := by
    rw [show n' * d * (b * b') = (n' * b') * (d * b) by simp only [Int.mul_assoc, Int.mul_comm, Int.mul_left_comm], h']
    simp only [Int.mul_assoc, Int.mul_comm, Int.mul_left_comm]
  rw [e1, e2]
  exact Int.mul_le_mul_of_nonneg_right hle (Int.mul_nonneg (by omega) (by omega))
end Go.Proofs.Ytobfbgmglopdhaa
namespace Go.Proofs.Ytobfbgmglopdhaa
open Ab Pl

section
variable {mv sv : List (List Int)} {k : Nat}

/-- a state for each request in which it can be served -/
def SvdP (mv sv : List (List Int)) (row : List Int) : Prop := (row.length : Int) = sv.length ∧ ∀ i : Nat, i < row.length → (0 ≤ row.getD i 0 ∧ row.getD i 0 < (mv.length : Int)) ∧ 0 ≤ ce sv i (row.getD i 0)
def AlgP (mv sv nx : List (List Int)) : Prop := (nx.length : Int) = mv.length ∧ ∀ row ∈ nx, SvdP mv sv row
def MixP (mv sv : List (List Int)) (us : List Int) (ns : List (List (List Int))) : Prop :=
  (1 ≤ (ns.length : Int) ∧ (ns.length : Int) ≤ 4) ∧ (us.length : Int) = ns.length ∧ (∀ x ∈ us, 1 ≤ x ∧ x ≤ 9) ∧ ∀ nx ∈ ns, AlgP mv sv nx
def Sz (ns : List (List (List Int))) : Prop := ns.length ≤ 1000 ∧ ∀ nx ∈ ns, nx.length ≤ 1000 ∧ ∀ row ∈ nx, row.length ≤ 1000

open Classical in
theorem served_all (hg : GoodP mv sv) {row : List Int} (hrow : (row.length : Int) = sv.length) {L : Nat → Int → Option Bool}
    (hL : ∀ f i, 0 ≤ i → i < (row.length : Int) → L (f + 1) i = bif decide (0 ≤ row.getD i.toNat 0 ∧ row.getD i.toNat 0 < (mv.length : Int)) then (bif decide (ce sv i (row.getD i.toNat 0) < 0) then some false else L f (i + 1)) else some false)
    (hE : ∀ f i, (row.length : Int) ≤ i → L (f + 1) i = some true) :
    ∀ (d f : Nat) (i : Nat), d + 1 ≤ f → i + d = row.length → L f i = some (decide (∀ j : Nat, i ≤ j → j < row.length → (0 ≤ row.getD j 0 ∧ row.getD j 0 < (mv.length : Int)) ∧ 0 ≤ ce sv j (row.getD j 0))) := by
  intro d
  induction d with
  | zero =>
    intro f i hf hi
    obtain ⟨f, rfl⟩ : ∃ g, f = g + 1 := ⟨f - 1, by omega⟩
    rw [hE f i (by omega), decide_eq_true]
    intro j h1 h2; omega
  | succ d ih =>
    intro f i hf hi
    obtain ⟨f, rfl⟩ : ∃ g, f = g + 1 := ⟨f - 1, by omega⟩
    rw [hL f i (by omega) (by omega), Int.toNat_natCast]
    by_cases a1 : 0 ≤ row.getD i 0 ∧ row.getD i 0 < (mv.length : Int)
    · by_cases a2 : ce sv i (row.getD i 0) < 0
      · have : ¬ ∀ j : Nat, i ≤ j → j < row.length → (0 ≤ row.getD j 0 ∧ row.getD j 0 < (mv.length : Int)) ∧ 0 ≤ ce sv j (row.getD j 0) := fun h => by
          have := (h i (Nat.le_refl _) (by omega)).2; omega
        rw [decide_eq_false this, decide_eq_true a1, decide_eq_true a2]; rfl
      · rw [decide_eq_true a1, decide_eq_false a2]
        show L f ((i : Int) + 1) = _
        rw [show (i : Int) + 1 = ((i + 1 : Nat) : Int) by omega, ih f (i + 1) (by omega) (by omega)]
        congr 1
        rw [decide_eq_decide]
        refine ⟨fun h j h1 h2 => ?_, fun h j h1 h2 => h j (by omega) h2⟩
        rcases Nat.lt_or_eq_of_le h1 with h3 | rfl
        · exact h j h3 h2
        · exact ⟨a1, by omega⟩
    · have : ¬ ∀ j : Nat, i ≤ j → j < row.length → (0 ≤ row.getD j 0 ∧ row.getD j 0 < (mv.length : Int)) ∧ 0 ≤ ce sv j (row.getD j 0) := fun h => a1 (h i (Nat.le_refl _) (by omega)).1
      rw [decide_eq_false this, decide_eq_false a1]; rfl

theorem row_i (hg : GoodP mv sv) {i : Int} (h0 : 0 ≤ i) (h1 : i < (sv.length : Int)) : ((sv.getD i.toNat []).length : Int) = mv.length := (hg.row ⟨h0, h1⟩).1

open Classical in
theorem areServed_eq (hk : 2000000 ≤ k) (hg : GoodP mv sv) {row : List Int} (hl : row.length ≤ 100000) : impl_Problem_areServed.f k mv sv row = some (decide (SvdP mv sv row)) := by
  have hml := hg.1
  simp only [impl_Problem_areServed.f, impl_Problem_areServed.B]
  by_cases a0 : (row.length : Int) = sv.length
  · rw [decide_eq_true a0]
    simp only [Bool.not_true, cond_false]
    have := served_all hg a0 (L := fun f i => impl_Problem_areServed.bs k f row row.length i mv sv) (fun f i h0 h1 => ?_) (fun f i h => ?_) row.length k 0 (by omega) (by omega)
    · rw [show ((0 : Nat) : Int) = 0 from rfl] at this
      rw [this]
      congr 1
      rw [decide_eq_decide]
      exact ⟨fun h => ⟨a0, fun i hi => h i (by omega) hi⟩, fun h j _ hj => h.2 j hj⟩
    · have hr := row_i hg h0 (by omega : i < (sv.length : Int))
      simp only [impl_Problem_areServed.bs, impl_Problem_areServed.B4, impl_Problem_isState.f, impl_Problem_isState.B, within_eq, Option.bind_some]
      rw [w64_id (n := i + 1) (by omega) (by omega), w64_id (n := (mv.length : Int) - 1) (by omega) (by omega)]
      rw [decide_eq_true h1, if_pos ⟨h0, h1⟩]
      simp only [cond_true]
      by_cases a1 : 0 ≤ row.getD i.toNat 0 ∧ row.getD i.toNat 0 < (mv.length : Int)
      · have a1' : 0 ≤ row.getD i.toNat 0 ∧ row.getD i.toNat 0 ≤ (mv.length : Int) - 1 := by omega
        rw [decide_eq_true a1, decide_eq_true a1', if_pos (by omega), if_pos (by omega)]
        rfl
      · have a1' : ¬ (0 ≤ row.getD i.toNat 0 ∧ row.getD i.toNat 0 ≤ (mv.length : Int) - 1) := by omega
        rw [decide_eq_false a1, decide_eq_false a1']; rfl
    · have : ¬ i < (row.length : Int) := by omega
      simp only [impl_Problem_areServed.bs, impl_Problem_areServed.B4, this, decide_false, cond_false]
  · have : ¬ SvdP mv sv row := fun h => a0 h.1
    rw [decide_eq_false a0, decide_eq_false this]; rfl

open Classical in
theorem isAlg_eq (hk : 2000000 ≤ k) (hg : GoodP mv sv) {nx : List (List Int)} (hl : nx.length ≤ 1000 ∧ ∀ row ∈ nx, row.length ≤ 1000) : impl_Problem_isAlgorithm.f k mv sv nx = some (decide (AlgP mv sv nx)) := by
  simp only [impl_Problem_isAlgorithm.f, impl_Problem_isAlgorithm.B]
  have hl1 := hl.1
  have e : slices_ContainsFunc_at_Problem_isAlgorithm_1.f k nx mv sv = some (nx.any fun row => !decide (SvdP mv sv row)) := by
    simp only [slices_ContainsFunc_at_Problem_isAlgorithm_1.f, slices_ContainsFunc_at_Problem_isAlgorithm_1.B, slices_IndexFunc_at_Problem_isAlgorithm_1.f, slices_IndexFunc_at_Problem_isAlgorithm_1.B]
    refine contains_of (L := fun f i => slices_IndexFunc_at_Problem_isAlgorithm_1.bs k f nx mv sv (nx.length : Int) i) (d := []) hk (by omega) (fun f i h0 h1 => ?_) fun f i h => ?_
    · have hr := hl.2 _ (getD_mem (d := []) h0 h1)
      simp only [slices_IndexFunc_at_Problem_isAlgorithm_1.bs, slices_IndexFunc_at_Problem_isAlgorithm_1.B2, h0, h1, decide_true, cond_true, and_self, if_true, impl_Problem_isAlgorithm_1.f, impl_Problem_isAlgorithm_1.B]
      rw [areServed_eq hk hg (by omega), w64_id (n := i + 1) (by omega) (by omega)]
      rfl
    · have : ¬ i < (nx.length : Int) := by omega
      simp only [slices_IndexFunc_at_Problem_isAlgorithm_1.bs, slices_IndexFunc_at_Problem_isAlgorithm_1.B2, this, decide_false, cond_false]
  rw [e]
  by_cases a0 : (nx.length : Int) = mv.length
  · rw [decide_eq_true a0]
    simp only [cond_true, Option.bind_some]
    congr 1
    rw [Bool.eq_iff_iff]
    simp only [Bool.not_eq_true', decide_eq_true_iff]
    rw [List.any_eq_false]
    exact ⟨fun h => ⟨a0, fun q hq => by have := h q hq; simpa using this⟩, fun h q hq => by have := h.2 q hq; simpa using this⟩
  · have : ¬ AlgP mv sv nx := fun h => a0 h.1
    rw [decide_eq_false a0, decide_eq_false this]; rfl

open Classical in
theorem isMix_eq (hk : 2000000 ≤ k) (hg : GoodP mv sv) {us : List Int} {ns : List (List (List Int))} (hz : Sz ns) (hu : us.length ≤ 100000) : impl_Problem_isMixture.f k mv sv us ns = some (decide (MixP mv sv us ns)) := by
  have hz1 := hz.1
  simp only [impl_Problem_isMixture.f, impl_Problem_isMixture.B, within_eq, Option.bind_some, weights_eq hk (l := us) (n := 1) (by omega)]
  have e : slices_ContainsFunc_at_Problem_isMixture_1.f k ns mv sv = some (ns.any fun nx => !decide (AlgP mv sv nx)) := by
    simp only [slices_ContainsFunc_at_Problem_isMixture_1.f, slices_ContainsFunc_at_Problem_isMixture_1.B, slices_IndexFunc_at_Problem_isMixture_1.f, slices_IndexFunc_at_Problem_isMixture_1.B]
    refine contains_of (L := fun f i => slices_IndexFunc_at_Problem_isMixture_1.bs k f ns mv sv (ns.length : Int) i) (d := []) hk (by omega) (fun f i h0 h1 => ?_) fun f i h => ?_
    · have hr := hz.2 _ (getD_mem (d := []) h0 h1)
      simp only [slices_IndexFunc_at_Problem_isMixture_1.bs, slices_IndexFunc_at_Problem_isMixture_1.B2, h0, h1, decide_true, cond_true, and_self, if_true, impl_Problem_isMixture_1.f, impl_Problem_isMixture_1.B]
      rw [isAlg_eq hk hg hr, w64_id (n := i + 1) (by omega) (by omega)]
      rfl
    · have : ¬ i < (ns.length : Int) := by omega
      simp only [slices_IndexFunc_at_Problem_isMixture_1.bs, slices_IndexFunc_at_Problem_isMixture_1.B2, this, decide_false, cond_false]
  rw [e]
  by_cases a1 : 1 ≤ (ns.length : Int) ∧ (ns.length : Int) ≤ 4
  · rw [decide_eq_true a1]
    by_cases a2 : (us.length : Int) = ns.length
    · rw [decide_eq_true a2]
      cases a3 : (us.all fun c => decide (1 ≤ c ∧ c ≤ 9)) with
      | true =>
        simp only [cond_true, Option.bind_some]
        congr 1
        rw [Bool.eq_iff_iff]
        simp only [Bool.not_eq_true', decide_eq_true_iff]
        rw [List.any_eq_false]
        exact ⟨fun h => ⟨a1, a2, allIn.1 a3, fun q hq => by have := h q hq; simpa using this⟩, fun h q hq => by have := h.2.2.2 q hq; simpa using this⟩
      | false =>
        have : ¬ MixP mv sv us ns := fun h => by
          have := allIn.2 h.2.2.1
          rw [a3] at this; simp at this
        rw [decide_eq_false this]; rfl
    · have : ¬ MixP mv sv us ns := fun h => a2 h.2.1
      rw [decide_eq_false a2, decide_eq_false this]; rfl
  · have : ¬ MixP mv sv us ns := fun h => a1 h.1
    rw [decide_eq_false a1, decide_eq_false this]; rfl

/-! the same of the spec -/
open Classical in
theorem algS_9 (hg : GoodP mv sv) {nx : List (List Int)} {a : Nat} (ha : a < nx.length) (hl : nx.length ≤ 1000) (hrow : ((nx.getD a []).length : Int) = sv.length) {R : Option Bool} {z : Nat}
    (hc : ∀ f, z ≤ f → (spec_l8Alg.bs k f).1 nx (w64 ((a : Int) + 1)) mv sv = R) :
    ∀ (d f : Nat) (i : Nat), z + d + 1 ≤ f → i + d = (nx.getD a []).length →
      (spec_l8Alg.bs k f).2 nx a i mv sv = bif decide (∀ j : Nat, i ≤ j → j < (nx.getD a []).length → (0 ≤ (nx.getD a []).getD j 0 ∧ (nx.getD a []).getD j 0 < (mv.length : Int)) ∧ 0 ≤ ce sv j ((nx.getD a []).getD j 0)) then R else some false := by
  have hml := hg.1
  have hsl := hg.2.2.1
  have ha2 : 0 ≤ (a : Int) ∧ (a : Int) < nx.length := by omega
  intro d
  induction d with
  | zero =>
    intro f i hf hi
    obtain ⟨f, rfl⟩ : ∃ g, f = g + 1 := ⟨f - 1, by omega⟩
    rw [decide_eq_true (fun j h1 h2 => by omega)]
    simp only [spec_l8Alg.bs, spec_l8Alg.B9]
    rw [Int.toNat_natCast, if_pos ha2, decide_eq_false (by omega)]
    exact hc f (by omega)
  | succ d ih =>
    intro f i hf hi
    obtain ⟨f, rfl⟩ : ∃ g, f = g + 1 := ⟨f - 1, by omega⟩
    simp only [spec_l8Alg.bs, spec_l8Alg.B9, in_eq, Option.bind_some]
    rw [Int.toNat_natCast, if_pos ha2, Int.toNat_natCast]
    generalize nx.getD a [] = row at *
    have hr := row_i hg (i := (i : Int)) (by omega) (by omega)
    rw [Int.toNat_natCast] at hr
    rw [decide_eq_true (by omega : (i : Int) < row.length), if_pos ha2, if_pos (by omega), w64_id (n := (i : Int) + 1) (by omega) (by omega), w64_id (n := (mv.length : Int) - 1) (by omega) (by omega), show (i : Int) + 1 = ((i + 1 : Nat) : Int) by omega]
    simp only [cond_true]
    have ec : (sv.getD i []).getD (row.getD i 0).toNat 0 = ce sv i (row.getD i 0) := rfl
    by_cases a1 : 0 ≤ row.getD i 0 ∧ row.getD i 0 < (mv.length : Int)
    · rw [decide_eq_true (by omega : 0 ≤ row.getD i 0 ∧ row.getD i 0 ≤ (mv.length : Int) - 1), if_pos (by omega), if_pos ha2, if_pos (by omega), if_pos (by omega), ec]
      simp only [Bool.not_true, cond_false]
      by_cases a2 : ce sv i (row.getD i 0) < 0
      · have : ¬ ∀ j : Nat, i ≤ j → j < row.length → (0 ≤ row.getD j 0 ∧ row.getD j 0 < (mv.length : Int)) ∧ 0 ≤ ce sv j (row.getD j 0) := fun h => by
          have := (h i (Nat.le_refl _) (by omega)).2; omega
        rw [decide_eq_false this, decide_eq_true a2]; rfl
      · rw [decide_eq_false a2, ih f (i + 1) (by omega) (by omega)]
        show (bif _ then R else some false) = _
        congr 1
        rw [decide_eq_decide]
        refine ⟨fun h j h1 h2 => ?_, fun h j h1 h2 => h j (by omega) h2⟩
        rcases Nat.lt_or_eq_of_le h1 with h3 | rfl
        · exact h j h3 h2
        · exact ⟨a1, by omega⟩
    · have : ¬ ∀ j : Nat, i ≤ j → j < row.length → (0 ≤ row.getD j 0 ∧ row.getD j 0 < (mv.length : Int)) ∧ 0 ≤ ce sv j (row.getD j 0) := fun h => a1 (h i (Nat.le_refl _) (by omega)).1
      rw [decide_eq_false this, decide_eq_false (by omega : ¬ (0 ≤ row.getD i 0 ∧ row.getD i 0 ≤ (mv.length : Int) - 1))]; rfl

open Classical in
theorem algS_eq (hk : 2000000 ≤ k) (hg : GoodP mv sv) {nx : List (List Int)} (hl : nx.length ≤ 1000 ∧ ∀ row ∈ nx, row.length ≤ 1000) : spec_l8Alg.f k mv sv nx = some (decide (AlgP mv sv nx)) := by
  have hl1 := hl.1
  simp only [spec_l8Alg.f, spec_l8Alg.B]
  by_cases a0 : (nx.length : Int) = mv.length
  · rw [decide_eq_true a0]
    simp only [Bool.not_true, cond_false]
    have main : ∀ (d f : Nat) (a : Nat), 1010 * (d + 1) ≤ f → a + d = nx.length → (spec_l8Alg.bs k f).1 nx a mv sv = some (decide (∀ row ∈ nx.drop a, SvdP mv sv row)) := by
      intro d
      induction d with
      | zero =>
        intro f a hf ha
        obtain ⟨f, rfl⟩ : ∃ g, f = g + 1 := ⟨f - 1, by omega⟩
        simp only [spec_l8Alg.bs, spec_l8Alg.B4]
        rw [decide_eq_false (by omega), List.drop_eq_nil_of_le (by omega)]
        simp
      | succ d ih =>
        intro f a hf ha
        obtain ⟨f, rfl⟩ : ∃ g, f = g + 1 := ⟨f - 1, by omega⟩
        simp only [spec_l8Alg.bs, spec_l8Alg.B4]
        have hdr := drop_at (l := nx) (i := (a : Int)) (d := []) (by omega) (by omega)
        rw [show ((a : Int) + 1).toNat = a + 1 by omega, Int.toNat_natCast] at hdr
        have hrl := hl.2 _ (getD_mem (l := nx) (i := (a : Int)) (d := []) (by omega) (by omega))
        rw [Int.toNat_natCast] at hrl
        rw [decide_eq_true (by omega : (a : Int) < nx.length), Int.toNat_natCast, if_pos (by omega), hdr]
        simp only [cond_true]
        by_cases a1 : ((nx.getD a []).length : Int) = sv.length
        · rw [decide_eq_true a1]
          simp only [Bool.not_true, cond_false]
          have h9 := algS_9 (k := k) hg (nx := nx) (a := a) (by omega) hl1 a1 (z := 1010 * (d + 1)) (R := some (decide (∀ row ∈ nx.drop (a + 1), SvdP mv sv row))) (fun f hf => by
            rw [w64_id (n := (a : Int) + 1) (by omega) (by omega), show (a : Int) + 1 = ((a + 1 : Nat) : Int) by omega]
            exact (ih f (a + 1) hf (by omega)).trans (by congr)) (nx.getD a []).length f 0 (by omega) (by omega)
          rw [show ((0 : Nat) : Int) = 0 from rfl] at h9
          rw [h9]
          by_cases a2 : SvdP mv sv (nx.getD a [])
          · rw [decide_eq_true (fun j _ hj => a2.2 j hj)]
            show some _ = _
            congr 1
            rw [decide_eq_decide]
            exact ⟨fun h row hr => (List.mem_cons.1 hr).elim (fun e => e ▸ a2) (h row), fun h row hr => h row (List.mem_cons_of_mem _ hr)⟩
          · have h1 : ¬ ∀ j : Nat, 0 ≤ j → j < (nx.getD a []).length → (0 ≤ (nx.getD a []).getD j 0 ∧ (nx.getD a []).getD j 0 < (mv.length : Int)) ∧ 0 ≤ ce sv j ((nx.getD a []).getD j 0) := fun h => a2 ⟨a1, fun i hi => h i (by omega) hi⟩
            have h2 : ¬ ∀ row ∈ nx.getD a [] :: nx.drop (a + 1), SvdP mv sv row := fun h => a2 (h _ (by simp))
            rw [decide_eq_false h1, decide_eq_false h2]; rfl
        · have h2 : ¬ ∀ row ∈ nx.getD a [] :: nx.drop (a + 1), SvdP mv sv row := fun h => a1 (h _ (by simp)).1
          rw [decide_eq_false a1, decide_eq_false h2]; rfl
    have hml := hg.1
    have := main nx.length k 0 (by omega) (by omega)
    rw [show ((0 : Nat) : Int) = 0 from rfl] at this
    rw [this]
    congr 1
    rw [decide_eq_decide]
    exact ⟨fun h => ⟨a0, h⟩, fun h => h.2⟩
  · have : ¬ AlgP mv sv nx := fun h => a0 h.1
    rw [decide_eq_false a0, decide_eq_false this]; rfl

open Classical in
theorem algsS_eq (hk : 2000000 ≤ k) (hg : GoodP mv sv) {ns : List (List (List Int))} (hz : Sz ns) : spec_l11Algs.f k mv sv ns = some (decide ((∀ nx ∈ ns, AlgP mv sv nx) ∧ 1 ≤ (ns.length : Int) ∧ (ns.length : Int) ≤ 4)) := by
  have hz1 := hz.1
  simp only [spec_l11Algs.f, spec_l11Algs.B]
  have main : ∀ (d f : Nat) (a : Nat), d + 1 ≤ f → a + d = ns.length → spec_l11Algs.bs k f ns a mv sv = some (decide ((∀ nx ∈ ns.drop a, AlgP mv sv nx) ∧ 1 ≤ (ns.length : Int) ∧ (ns.length : Int) ≤ 4)) := by
    intro d
    induction d with
    | zero =>
      intro f a hf ha
      obtain ⟨f, rfl⟩ : ∃ g, f = g + 1 := ⟨f - 1, by omega⟩
      simp only [spec_l11Algs.bs, spec_l11Algs.B2, in_eq, Option.bind_some]
      rw [decide_eq_false (by omega), List.drop_eq_nil_of_le (by omega)]
      simp
    | succ d ih =>
      intro f a hf ha
      obtain ⟨f, rfl⟩ : ∃ g, f = g + 1 := ⟨f - 1, by omega⟩
      simp only [spec_l11Algs.bs, spec_l11Algs.B2]
      have hdr := drop_at (l := ns) (i := (a : Int)) (d := []) (by omega) (by omega)
      rw [show ((a : Int) + 1).toNat = a + 1 by omega, Int.toNat_natCast] at hdr
      have hrl := hz.2 _ (getD_mem (l := ns) (i := (a : Int)) (d := []) (by omega) (by omega))
      rw [Int.toNat_natCast] at hrl
      rw [decide_eq_true (by omega : (a : Int) < ns.length), Int.toNat_natCast, if_pos (by omega), hdr, algS_eq hk hg hrl, w64_id (n := (a : Int) + 1) (by omega) (by omega), show (a : Int) + 1 = ((a + 1 : Nat) : Int) by omega, ih f (a + 1) (by omega) (by omega)]
      simp only [cond_true, Option.bind_some]
      by_cases a2 : AlgP mv sv (ns.getD a [])
      · rw [decide_eq_true a2]
        show some _ = _
        congr 1
        rw [decide_eq_decide]
        exact ⟨fun h => ⟨fun nx hr => (List.mem_cons.1 hr).elim (fun e => e ▸ a2) (h.1 nx), h.2⟩, fun h => ⟨fun nx hr => h.1 nx (List.mem_cons_of_mem _ hr), h.2⟩⟩
      · have h2 : ¬ ((∀ nx ∈ ns.getD a [] :: ns.drop (a + 1), AlgP mv sv nx) ∧ 1 ≤ (ns.length : Int) ∧ (ns.length : Int) ≤ 4) := fun h => a2 (h.1 _ (by simp))
        rw [decide_eq_false a2, decide_eq_false h2]; rfl
  have := main ns.length k 0 (by omega) (by omega)
  rw [show ((0 : Nat) : Int) = 0 from rfl] at this
  rw [this]; rfl

open Classical in
theorem mixS_eq (hk : 2000000 ≤ k) (h1 : Mx mv) (h2 : Mx sv) (hg : GoodP mv sv) {us : List Int} {ns : List (List (List Int))} (hz : Sz ns) (hu : us.length ≤ 100000) : spec_l11Mixture.f k mv sv us ns = some (decide (MixP mv sv us ns)) := by
  simp only [spec_l11Mixture.f, spec_l11Mixture.B, problemS_eq hk h1 h2, algsS_eq hk hg hz, Option.bind_some, weightsS_eq hk (l := us) (n := 1) (by omega)]
  rw [decide_eq_true hg]
  by_cases a1 : (∀ nx ∈ ns, AlgP mv sv nx) ∧ 1 ≤ (ns.length : Int) ∧ (ns.length : Int) ≤ 4
  · rw [decide_eq_true a1]
    by_cases a2 : (us.length : Int) = ns.length
    · rw [decide_eq_true a2]
      simp only [cond_true]
      congr 1
      rw [Bool.eq_iff_iff]
      simp only [decide_eq_true_iff]
      exact ⟨fun h => ⟨a1.2, a2, allIn.1 h, a1.1⟩, fun h => allIn.2 h.2.2.1⟩
    · have : ¬ MixP mv sv us ns := fun h => a2 h.2.1
      rw [decide_eq_false a2, decide_eq_false this]; rfl
  · have : ¬ MixP mv sv us ns := fun h => a1 ⟨h.2.2.2, h.1⟩
    rw [decide_eq_false a1, decide_eq_false this]; rfl
end
end Go.Proofs.Ytobfbgmglopdhaa
namespace Go.Proofs.Ytobfbgmglopdhaa
open Ab Pl

section
variable {k : Nat} {code : List Int} {mv sv : List (List Int)}

def AlgDr (code : List Int) (A : Int) (r : List (List Int) × List Int × Int × Int) : Prop :=
  (r.1.length ≤ 1000 ∧ ∀ row ∈ r.1, row.length ≤ 1000) ∧ r.2.1 = code ∧ 0 ≤ r.2.2.1 ∧ r.2.2.1 ≤ A

variable {Q : List (List Int) × List Int × Int × Int → Prop}
theorem alg_11 (h1 : Mx mv) (hm : 1 ≤ mv.length) (h2 : Mx sv) {x6 : Int} {x8 a s : Int} (hx8 : 0 ≤ x8 ∧ x8 < (sv.length : Int)) {rows : List (List Int)} {row : List Int} (hrow : row.length ≤ 200) {z : Nat}
    (hc : ∀ f v, z ≤ f → OK ((spec_l1Cur_algorithm.bs k f).2.1 x6 (w64 (x8 + 1)) code a s mv sv rows (row ++ [v])) Q) :
    ∀ (d f : Nat) (x9 x10 : Int), z + d + 1 ≤ f → x10 + d = mv.length → 0 ≤ x10 → 0 ≤ x9 ∧ x9 ≤ 1000 → OK ((spec_l1Cur_algorithm.bs k f).2.2 x6 x8 x9 x10 code a s mv sv rows row) Q := by
  have n1 := h1.1
  intro d
  induction d with
  | zero =>
    intro f x9 x10 hf hx h0 h9
    obtain ⟨f, rfl⟩ : ∃ g, f = g + 1 := ⟨f - 1, by omega⟩
    simp only [spec_l1Cur_algorithm.bs, spec_l1Cur_algorithm.B11]
    exact OK.bif (fun h => by omega) fun _ => OK.req (by rw [capB_eq]; omega) (hc f _ (by omega))
  | succ d ih =>
    intro f x9 x10 hf hx h0 h9
    obtain ⟨f, rfl⟩ : ∃ g, f = g + 1 := ⟨f - 1, by omega⟩
    simp only [spec_l1Cur_algorithm.bs, spec_l1Cur_algorithm.B11]
    rw [w64_id (n := x10 + 1) (by omega) (by omega), w64_id (n := x9 + 1) (by omega) (by omega)]
    have t1 := Int.tmod_nonneg (mv.length : Int) (show 0 ≤ x9 + 1 by omega)
    have t2 := Int.tmod_lt_of_pos (x9 + 1) (show 0 < (mv.length : Int) by omega)
    have next := ih f (Int.tmod (x9 + 1) mv.length) (x10 + 1) (by omega) (by omega) (by omega) (by omega)
    refine OK.bif (fun _ => OK.req hx8 (OK.bif (fun _ => OK.req (by omega) next) fun hlt => OK.req hx8 (OK.req (by omega) (OK.bif (fun _ => OK.req (by omega) next) fun _ => OK.req (by rw [capB_eq]; omega) (hc f _ (by omega)))))) fun h => by omega

theorem alg_7 (hb : By code) (h1 : Mx mv) (hm : 1 ≤ mv.length) (h2 : Mx sv) {x6 : Int} (h6 : 0 ≤ x6 ∧ x6 ≤ 1000) {rows : List (List Int)} (hrows : rows.length ≤ 200) {A : Int} (hA : A ≤ 10000000) {z : Nat}
    (hc : ∀ f a s row, z ≤ f → 0 ≤ a → a ≤ A → row.length = sv.length → OK ((spec_l1Cur_algorithm.bs k f).1 (x6 + 1) code a s mv sv (rows ++ [row])) Q) :
    ∀ (d f : Nat) (a s : Int) (row : List Int), z + 110 * (d + 1) ≤ f → row.length + d = sv.length → 0 ≤ a → a + 2 * d ≤ A → OK ((spec_l1Cur_algorithm.bs k f).2.1 x6 row.length code a s mv sv rows row) Q := by
  have n1 := h1.1
  have n2 := h2.1
  intro d
  induction d with
  | zero =>
    intro f a s row hf hx h0 ha
    obtain ⟨f, rfl⟩ : ∃ g, f = g + 1 := ⟨f - 1, by omega⟩
    simp only [spec_l1Cur_algorithm.bs, spec_l1Cur_algorithm.B7]
    rw [w64_id (n := x6 + 1) (by omega) (by omega)]
    exact OK.bif (fun h => by omega) fun _ => OK.req (by rw [capB_eq]; omega) (hc f _ _ _ (by omega) h0 (by omega) (by omega))
  | succ d ih =>
    intro f a s row hf hx h0 ha
    obtain ⟨f, rfl⟩ : ∃ g, f = g + 1 := ⟨f - 1, by omega⟩
    simp only [spec_l1Cur_algorithm.bs, spec_l1Cur_algorithm.B7]
    refine OK.bif (fun hlt => OK.bind (pick_ok hb h0 (by omega)) ?_) fun h => by omega
    rintro ⟨v, c, a2, s2⟩ ⟨v1, v2, _, rfl, v3, v4⟩
    dsimp only at v1 v2 v3 v4 ⊢
    have v2 := v2 (by omega)
    refine alg_11 h1 hm h2 ⟨by omega, hlt⟩ (by omega) (z := z + 110 * (d + 1)) (fun f u hf => ?_) mv.length f v 0 (by omega) (by omega) (by omega) (by omega)
    have := ih f a2 s2 (row ++ [u]) hf (by simp; omega) (by omega) (by omega)
    rw [w64_id (n := (row.length : Int) + 1) (by omega) (by omega)]
    rw [List.length_append, List.length_singleton] at this
    exact this

theorem alg_3 (hb : By code) (h1 : Mx mv) (hm : 1 ≤ mv.length) (h2 : Mx sv) {A : Int} (hA : A ≤ 1000000) :
    ∀ (d f : Nat) (a s : Int) (rows : List (List Int)), 12000 * (d + 1) ≤ f → rows.length + d = mv.length → (∀ row ∈ rows, row.length ≤ 200) → 0 ≤ a → a + 200 * d + 10 ≤ A → OK ((spec_l1Cur_algorithm.bs k f).1 rows.length code a s mv sv rows) (AlgDr code A) := by
  have n1 := h1.1
  have n2 := h2.1
  intro d
  induction d with
  | zero =>
    intro f a s rows hf hx hr h0 ha
    obtain ⟨f, rfl⟩ : ∃ g, f = g + 1 := ⟨f - 1, by omega⟩
    simp only [spec_l1Cur_algorithm.bs, spec_l1Cur_algorithm.B3]
    have hr2 : ∀ row ∈ rows, row.length ≤ 1000 := fun row h => by have := hr row h; omega
    refine OK.bif (fun h => by omega) fun _ => OK.bif (fun hpos => OK.req (by omega) (OK.bif (fun hp2 => ?_) fun _ => OK.ret ⟨⟨by dsimp only; omega, hr2⟩, rfl, h0, by dsimp only; omega⟩)) fun _ => OK.ret ⟨⟨by dsimp only; omega, hr2⟩, rfl, h0, by dsimp only; omega⟩
    have hfirst := hr _ (getD_mem (l := rows) (i := 0) (d := []) (by omega) hpos)
    rw [Int.toNat_zero] at hfirst
    have st : ∀ (q : List Int), q.length ≤ 1000 → ∀ row ∈ rows.set 0 q, row.length ≤ 1000 := fun q hq row h => by
      rcases List.mem_or_eq_of_mem_set h with h | rfl
      · exact hr2 row h
      · exact hq
    refine OK.bind (pick_ok hb h0 (by omega)) ?_
    rintro ⟨v, c, a2, s2⟩ ⟨v1, v2, _, rfl, v3, v4⟩
    dsimp only at v1 v2 v3 v4 ⊢
    refine OK.bif (fun _ => OK.req (by omega) (OK.bind (among_ok hb (by simp) (by omega) (by omega)) ?_)) fun _ => OK.bif (fun _ => ?_) fun _ => OK.bif (fun _ => ?_) fun _ => ?_
    · rintro ⟨v, c, a3, s3⟩ ⟨_, rfl, u3, u4⟩
      dsimp only at u3 u4 ⊢
      exact OK.req (by omega) (OK.ret ⟨⟨by simp; omega, st _ (by rw [List.length_set]; omega)⟩, rfl, by dsimp only; omega, by dsimp only; omega⟩)
    · exact OK.req (by omega) (OK.req (by rw [capB_eq]; omega) (OK.req (by omega) (OK.req trivial (OK.ret ⟨⟨by simp; omega, st _ (by rw [List.length_append, List.length_singleton]; omega)⟩, rfl, by dsimp only; omega, by dsimp only; omega⟩))))
    · exact OK.req (by omega) (OK.ret ⟨⟨by simp; omega, fun row h => hr2 row (List.mem_of_mem_drop (List.mem_of_mem_take h))⟩, rfl, by dsimp only; omega, by dsimp only; omega⟩)
    · exact OK.ret ⟨⟨by dsimp only; omega, hr2⟩, rfl, by dsimp only; omega, by dsimp only; omega⟩
  | succ d ih =>
    intro f a s rows hf hx hr h0 ha
    obtain ⟨f, rfl⟩ : ∃ g, f = g + 1 := ⟨f - 1, by omega⟩
    simp only [spec_l1Cur_algorithm.bs, spec_l1Cur_algorithm.B3]
    refine OK.bif (fun hlt => ?_) fun h => by omega
    refine alg_7 (A := a + 200) hb h1 hm h2 (by omega) (by omega) (by omega) (z := 12000 * (d + 1)) (fun f a' s' row hf h0' ha' hrow => ?_) sv.length f a s [] (by omega) (by simp) h0 (by omega)
    have := ih f a' s' (rows ++ [row]) hf (by simp; omega) (fun q hq => (List.mem_append.1 hq).elim (hr q) fun h => by rw [List.mem_singleton.1 h]; omega) h0' (by omega)
    rw [List.length_append, List.length_singleton] at this
    exact this

theorem alg_ok (hk : 2000000 ≤ k) (hb : By code) (h1 : Mx mv) (hm : 1 ≤ mv.length) (h2 : Mx sv) {a s : Int} (h0 : 0 ≤ a) (ha : a ≤ 800000) : OK (spec_l1Cur_algorithm.f k mv sv code a s) (AlgDr code (a + 30000)) := by
  have n1 := h1.1
  simp only [spec_l1Cur_algorithm.f, spec_l1Cur_algorithm.B]
  exact alg_3 hb h1 hm h2 (by omega) mv.length k a s [] (by omega) (by simp) (fun q hq => by simp at hq) h0 (by omega)

def MixDr (r : List Int × Int × Int × List Int × List (List (List Int))) : Prop := r.2.2.2.1.length ≤ 2000 ∧ Sz r.2.2.2.2

theorem mix_3 (hk : 2000000 ≤ k) (hb : By code) (h1 : Mx mv) (hm : 1 ≤ mv.length) (h2 : Mx sv) {y0 y2 : List Int} {y1 : List (List (List Int))} :
    ∀ (d f : Nat) (a s : Int) (ns : List (List (List Int))), d + 1 ≤ f → ns.length + d ≤ 10 → (∀ nx ∈ ns, nx.length ≤ 1000 ∧ ∀ row ∈ nx, row.length ≤ 1000) → 0 ≤ a → a + 30000 * d ≤ 500000 →
      OK (spec_l1Cur_mixture.bs k f d code a s mv sv y0 y1 y2 ns) MixDr := by
  intro d
  induction d with
  | zero =>
    intro f a s ns hf hn hns h0 ha
    obtain ⟨f, rfl⟩ : ∃ g, f = g + 1 := ⟨f - 1, by omega⟩
    simp only [spec_l1Cur_mixture.bs, spec_l1Cur_mixture.B3]
    refine OK.bif (fun h => by omega) fun _ => OK.bind (weights11_ok hb hk (by omega) h0 (by omega)) ?_
    rintro ⟨c, a2, s2, ws⟩ ⟨rfl, q3, q4, q5⟩
    exact OK.ret ⟨q5, ⟨by dsimp only; omega, hns⟩⟩
  | succ d ih =>
    intro f a s ns hf hn hns h0 ha
    obtain ⟨f, rfl⟩ : ∃ g, f = g + 1 := ⟨f - 1, by omega⟩
    simp only [spec_l1Cur_mixture.bs, spec_l1Cur_mixture.B3]
    refine OK.bif (fun _ => OK.bind (alg_ok hk hb h1 hm h2 h0 (by omega)) ?_) fun h => by omega
    rintro ⟨nx, c, a2, s2⟩ ⟨q1, q2, q3, q4⟩
    dsimp only at q1 q2 q3 q4 ⊢
    subst q2
    rw [w64_id (n := ((d + 1 : Nat) : Int) - 1) (by omega) (by omega), show ((d + 1 : Nat) : Int) - 1 = d by omega]
    exact OK.req (by rw [capB_eq]; omega) (ih f a2 s2 _ (by omega) (by simp; omega) (fun q hq => (List.mem_append.1 hq).elim (hns q) fun h => by rw [List.mem_singleton.1 h]; exact q1) q3 (by omega))

theorem mix_ok (hk : 2000000 ≤ k) (hb : By code) (h1 : Mx mv) (hm : 1 ≤ mv.length) (h2 : Mx sv) {a s : Int} (h0 : 0 ≤ a) (ha : a ≤ 1000) : OK (spec_l1Cur_mixture.f k mv sv code a s) MixDr := by
  simp only [spec_l1Cur_mixture.f, spec_l1Cur_mixture.B]
  refine OK.bind (pick_ok hb h0 (by omega)) ?_
  rintro ⟨v, c, a3, s3⟩ ⟨v1, v2, _, rfl, v3, v4⟩
  dsimp only at v1 v2 v3 v4 ⊢
  have v2 := v2 (by omega)
  have hd : 0 ≤ Int.tdiv v 6 ∧ Int.tdiv v 6 ≤ 2 := by
    rw [Int.tdiv_eq_ediv_of_nonneg v1]; omega
  rw [w64_id (n := Int.tdiv v 6) (by omega) (by omega), w64_id (n := 7 + Int.tdiv v 6) (by omega) (by omega)]
  refine OK.req (by omega) (OK.req (by omega) (OK.bind (among_ok hb (by simp; omega) (by omega) (by omega)) ?_))
  rintro ⟨x, c, a4, s4⟩ ⟨w1, rfl, w3, w4⟩
  dsimp only at w1 w3 w4 ⊢
  have w1 := List.mem_of_mem_drop (List.mem_of_mem_take w1)
  have hx : 0 ≤ x ∧ x ≤ 5 := by simp at w1; omega
  obtain ⟨x, rfl⟩ := Int.eq_ofNat_of_zero_le hx.1
  exact mix_3 hk hb h1 hm h2 x k _ _ [] (by omega) (by simp; omega) (fun q hq => by simp at hq) (by omega) (by omega)

theorem drawCh_ok (hb : By code) (hk : 2000000 ≤ k) : OK (spec_DrawIsChances.f k code) fun r => Mx r.1 ∧ Mx r.2.1 ∧ r.2.2.1.length ≤ 100000 ∧ Sh r.2.2.2 := by
  simp only [spec_DrawIsChances.f, spec_DrawIsChances.B]
  refine OK.bind (problem_ok hk hb (by omega) (by omega)) ?_
  rintro ⟨sv, c, a, s, mv⟩ ⟨p1, p2, p3, p4, p5, p6, p7⟩
  dsimp only at p1 p2 p3 p4 p5 p6 p7 ⊢
  subst p3
  refine OK.bind (chances_ok hk hb (by omega) (by omega)) ?_
  rintro ⟨c, a2, s2, cw, cs⟩ ⟨rfl, q2, q3, q4, q5, q6⟩
  dsimp only at q2 q3 q4 q5 q6 ⊢
  exact OK.ret ⟨p6, p1, by dsimp only; omega, by dsimp only; omega, fun q hq => by have := q6 q hq; omega⟩

theorem drawMix_ok (hb : By code) (hk : 2000000 ≤ k) : OK (spec_DrawIsMixture.f k code) fun r => r.2.2.1.length ≤ 100000 ∧ Sz r.2.2.2 := by
  simp only [spec_DrawIsMixture.f, spec_DrawIsMixture.B]
  refine OK.bind (problem_ok hk hb (by omega) (by omega)) ?_
  rintro ⟨sv, c, a, s, mv⟩ ⟨p1, p2, p3, p4, p5, p6, p7⟩
  dsimp only at p1 p2 p3 p4 p5 p6 p7 ⊢
  subst p3
  refine OK.bind (mix_ok hk hb p6 p7 p1 (by omega) (by omega)) ?_
  rintro ⟨c, a2, s2, us, ns⟩ ⟨q1, q2⟩
  exact OK.ret ⟨by dsimp only at *; omega, q2⟩
end
end Go.Proofs.Ytobfbgmglopdhaa
namespace Go.Proofs.Ytobfbgmglopdhaa
open Ab Pl

section
variable {mv sv : List (List Int)} {us : List Int} {ns : List (List (List Int))} {k : Nat}

theorem srv_in {r b : Int} (hb : 0 ≤ b ∧ b < ((sv.getD r.toNat []).length : Int)) (hc : 0 ≤ ce sv r b) : b ∈ srv sv r := by
  unfold srv
  rw [List.mem_filter, List.mem_map]
  exact ⟨⟨b.toNat, by rw [List.mem_range]; omega, by omega⟩, decide_eq_true hc⟩

theorem AlgP.to {nx : List (List Int)} (hg : GoodP mv sv) (h : AlgP mv sv nx) {a r : Int} (ha : 0 ≤ a ∧ a < (mv.length : Int)) (hr : 0 ≤ r ∧ r < (sv.length : Int)) : ((nx.getD a.toNat []).length : Int) = sv.length ∧ ce nx a r ∈ srv sv r ∧ (0 ≤ ce nx a r ∧ ce nx a r < (mv.length : Int)) := by
  have h1 := h.2 _ (getD_mem (l := nx) (i := a) (d := []) ha.1 (by have := h.1; omega))
  have h2 := h1.1
  have h3 := h1.2 r.toNat (by omega)
  have h4 := (hg.row hr).1
  have e : ce nx a r = (nx.getD a.toNat []).getD r.toNat 0 := rfl
  rw [Int.toNat_of_nonneg hr.1, ← e] at h3
  exact ⟨h2, srv_in (by omega) h3.2, h3.1⟩

/-- what an algorithm pays -/
def rc (mv sv nx : List (List Int)) : List Int → Int → Int
  | [], _ => 0
  | r :: q, a => co mv sv a (ce nx a r) r + rc mv sv nx q (ce nx a r)

theorem rc_bd (hg : GoodP mv sv) {nx : List (List Int)} (h : AlgP mv sv nx) : ∀ (q : List Int) (a : Int), (∀ x ∈ q, 0 ≤ x ∧ x < (sv.length : Int)) → 0 ≤ a ∧ a < (mv.length : Int) → 0 ≤ rc mv sv nx q a ∧ rc mv sv nx q a ≤ 119 * q.length
  | [], a, _, _ => by simp [rc]
  | r :: q, a, hq, ha => by
    have hr := hq r (by simp)
    have ht := h.to hg ha hr
    have hco := hg.co ha hr ht.2.1
    have := rc_bd hg h q (ce nx a r) (fun x hx => hq x (List.mem_cons_of_mem _ hx)) ht.2.2
    simp only [rc, List.length_cons]; omega

theorem ran_ok (hk : 2000000 ≤ k) (hg : GoodP mv sv) {nx : List (List Int)} (h : AlgP mv sv nx) {st : Int} (hst : 0 ≤ st ∧ st < (mv.length : Int)) {q : List Int} (hl : q.length ≤ 1000) (hq : ∀ x ∈ q, 0 ≤ x ∧ x < (sv.length : Int)) :
    OK (impl_Problem_ran.f k mv sv nx st q) fun x => x.1 = rc mv sv nx q st := by
  simp only [impl_Problem_ran.f, impl_Problem_ran.B]
  have main : ∀ (d f : Nat) (i : Nat) (a s : Int) (out : List Int), d + 1 ≤ f → i + d = q.length → 0 ≤ a ∧ a < (mv.length : Int) → 0 ≤ s ∧ s ≤ 119 * i → out.length ≤ i → s + rc mv sv nx (q.drop i) a = rc mv sv nx q st →
      OK (impl_Problem_ran.bs k f nx a s q q.length i mv sv out) fun x => x.1 = rc mv sv nx q st := by
    intro d
    induction d with
    | zero =>
      intro f i a s out hf hi ha hs ho he
      obtain ⟨f, rfl⟩ : ∃ g, f = g + 1 := ⟨f - 1, by omega⟩
      simp only [impl_Problem_ran.bs, impl_Problem_ran.B3]
      rw [List.drop_eq_nil_of_le (by omega)] at he
      refine OK.bif (fun h => by omega) fun _ => OK.ret ?_
      simp only [rc] at he
      dsimp only; omega
    | succ d ih =>
      intro f i a s out hf hi ha hs ho he
      obtain ⟨f, rfl⟩ : ∃ g, f = g + 1 := ⟨f - 1, by omega⟩
      simp only [impl_Problem_ran.bs, impl_Problem_ran.B3]
      have hdr := drop_at (l := q) (i := (i : Int)) (d := 0) (by omega) (by omega)
      have hr := hq _ (getD_mem (l := q) (i := (i : Int)) (d := 0) (by omega) (by omega))
      rw [show ((i : Int) + 1).toNat = i + 1 by omega, Int.toNat_natCast] at hdr
      rw [Int.toNat_natCast] at hr ⊢
      rw [hdr] at he
      generalize q.getD i 0 = r at he hr
      have ht := h.to hg ha hr
      have hco := hg.co ha hr ht.2.1
      have hnl := h.1
      have e : (nx.getD a.toNat []).getD r.toNat 0 = ce nx a r := rfl
      rw [e, cost_eq hg ha hr ht.2.1, w64_id (n := (i : Int) + 1) (by omega) (by omega), show (i : Int) + 1 = ((i + 1 : Nat) : Int) by omega]
      refine OK.bif (fun _ => OK.req (by omega) (OK.req (by omega) (OK.req (by omega) ?_))) fun h => by omega
      simp only [Option.bind_some, List.length_singleton]
      rw [w64_id (n := s + _) (by omega) (by omega)]
      refine OK.req (by rw [capB_eq]; omega) (ih f (i + 1) _ _ _ (by omega) (by omega) ht.2.2 (by omega) (by rw [List.length_append, List.length_singleton]; omega) ?_)
      simp only [rc] at he
      omega
  exact main q.length k 0 st 0 [] (by omega) (by omega) hst (by omega) (by simp) (by simp)

/-- the weighted cost of a mixture -/
def mx (mv sv : List (List Int)) (us : List Int) (ns : List (List (List Int))) (q : List Int) (a : Int) : Int := ((us.zip ns).map fun p => p.1 * rc mv sv p.2 q a).sum

theorem mx_bd (hg : GoodP mv sv) (hM : MixP mv sv us ns) {st : Int} (hst : 0 ≤ st ∧ st < (mv.length : Int)) {q : List Int} (hl : q.length ≤ 4) (hq : ∀ x ∈ q, 0 ≤ x ∧ x < (sv.length : Int)) : 0 ≤ mx mv sv us ns q st ∧ mx mv sv us ns q st ≤ 20000 := by
  have : Nn 5000 ((us.zip ns).map fun p => p.1 * rc mv sv p.2 q st) := by
    intro x hx
    obtain ⟨p, hp, rfl⟩ := List.mem_map.1 hx
    have h1 := hM.2.2.1 p.1 (List.of_mem_zip hp).1
    have h2 := rc_bd hg (hM.2.2.2 p.2 (List.of_mem_zip hp).2) q st hq hst
    have := mulbd (A := 9) (show 0 ≤ p.1 ∧ p.1 ≤ 9 by omega) h2
    omega
  have := this.sum
  have h1 := hM.1
  rw [List.length_map, List.length_zip] at this
  unfold mx; omega

theorem mixed_eq (hk : 2000000 ≤ k) (hg : GoodP mv sv) (hM : MixP mv sv us ns) {st : Int} (hst : 0 ≤ st ∧ st < (mv.length : Int)) {q : List Int} (hl : q.length ≤ 4) (hq : ∀ x ∈ q, 0 ≤ x ∧ x < (sv.length : Int)) :
    impl_Problem_mixed.f k mv sv us ns st q = some (mx mv sv us ns q st) := by
  refine OK.some ?_
  have h1 := hM.1
  have h2 := hM.2.1
  have hbd := mx_bd hg hM hst hl hq
  simp only [impl_Problem_mixed.f, impl_Problem_mixed.B]
  have main : ∀ (d f : Nat) (i : Nat) (s : Int), d + 1 ≤ f → i + d = ns.length → 0 ≤ s ∧ s ≤ 5000 * i → s + (((us.zip ns).drop i).map fun p => p.1 * rc mv sv p.2 q st).sum = mx mv sv us ns q st →
      OK (impl_Problem_mixed.bs k f st q s ns ns.length i mv sv us ns) fun x => x = mx mv sv us ns q st := by
    intro d
    induction d with
    | zero =>
      intro f i s hf hi hs he
      obtain ⟨f, rfl⟩ : ∃ g, f = g + 1 := ⟨f - 1, by omega⟩
      simp only [impl_Problem_mixed.bs, impl_Problem_mixed.B3]
      rw [List.drop_eq_nil_of_le (by rw [List.length_zip]; omega)] at he
      refine OK.bif (fun h => by omega) fun _ => OK.ret ?_
      simpa using he
    | succ d ih =>
      intro f i s hf hi hs he
      obtain ⟨f, rfl⟩ : ∃ g, f = g + 1 := ⟨f - 1, by omega⟩
      simp only [impl_Problem_mixed.bs, impl_Problem_mixed.B3]
      have hz : (us.zip ns).getD i (0, []) = (us.getD i 0, ns.getD i []) := by
        have e1 : i < us.length := by omega
        have e2 : i < ns.length := by omega
        have e3 : i < (us.zip ns).length := by rw [List.length_zip]; omega
        simp only [List.getD, List.getElem?_eq_getElem e1, List.getElem?_eq_getElem e2, List.getElem?_eq_getElem e3, Option.getD_some, List.getElem_zip]
      have hdr := drop_at (l := us.zip ns) (i := (i : Int)) (d := (0, [])) (by omega) (by rw [List.length_zip]; omega)
      rw [show ((i : Int) + 1).toNat = i + 1 by omega, Int.toNat_natCast, hz] at hdr
      have ha := hM.2.2.2 _ (getD_mem (l := ns) (i := (i : Int)) (d := []) (by omega) (by omega))
      have hu := hM.2.2.1 _ (getD_mem (l := us) (i := (i : Int)) (d := 0) (by omega) (by omega))
      rw [Int.toNat_natCast] at ha hu ⊢
      rw [hdr, List.map_cons, List.sum_cons] at he
      dsimp only at he
      have hrb := rc_bd hg ha q st hq hst
      have hp := mulbd (A := 9) (show 0 ≤ us.getD i 0 ∧ us.getD i 0 ≤ 9 by omega) hrb
      refine OK.bif (fun _ => OK.req (by omega) (OK.bind (ran_ok hk hg ha hst (by omega) hq) fun x hx => ?_)) fun h => by omega
      refine OK.req (by omega) ?_
      rw [hx, w64_id (n := us.getD i 0 * _) (by omega) (by omega), w64_id (n := s + _) (by omega) (by omega), w64_id (n := (i : Int) + 1) (by omega) (by omega), show (i : Int) + 1 = ((i + 1 : Nat) : Int) by omega]
      exact ih f (i + 1) _ (by omega) (by omega) (by omega) (by omega)
  exact main ns.length k 0 0 (by omega) (by omega) (by omega) (by unfold mx; simp)

/-! all sequences of a length -/
def Fz (n : Nat) : Nat → Nat
  | 0 => 1
  | j + 1 => n * (Fz n j + 1) + 1

def Inr (sv : List (List Int)) (q : List Int) : Prop := ∀ x ∈ q, 0 ≤ x ∧ x < (sv.length : Int)

variable {Q : Int × List Int → Prop} {st : Int} {L : Nat}
theorem worst_1 (hk : 2000000 ≤ k) (hg : GoodP mv sv) (hM : MixP mv sv us ns) (hst : 0 ≤ st ∧ st < (mv.length : Int)) {q : List Int} (hl : q.length ≤ 4) (hq : Inr sv q) {o : Int} {w : List Int} :
    OK (impl_WorstOfMixture_1.f k q mv sv us ns st o w) fun x => x.1 = max o (mx mv sv us ns q st) := by
  simp only [impl_WorstOfMixture_1.f, impl_WorstOfMixture_1.B]
  rw [mixed_eq hk hg hM hst hl hq]
  simp only [Option.bind_some]
  refine OK.bif (fun h => ?_) fun h => OK.ret ?_
  · rw [clone_eq (by omega)]
    refine OK.ret ?_
    dsimp only; omega
  · dsimp only; omega

theorem repl_snoc (j : Nat) (p : List Int) : (p ++ [0]) ++ List.replicate j (0 : Int) = p ++ List.replicate (j + 1) 0 := by
  rw [List.append_assoc]; rfl

theorem seqs_run (hk : 2000000 ≤ k) (hg : GoodP mv sv) (hM : MixP mv sv us ns) (hst : 0 ≤ st ∧ st < (mv.length : Int)) (hL : L ≤ 4) : ∀ (j : Nat) (p : List Int) (o : Int) (w : List Int) (f z : Nat), p.length + j = L → Inr sv p → z + Fz sv.length j ≤ f → -1 ≤ o ∧ o ≤ 20000 →
    (∀ f' o' w', z ≤ f' → (o ≤ o' ∧ o' ≤ 20000) → (∀ t : List Int, t.length = j → Inr sv t → mx mv sv us ns (p ++ t) st ≤ o') →
      OK ((impl_sequences_at_WorstOfMixture_1.bs k f').2 sv.length L mv sv us ns st ((p.length : Int) - 1) o' w' (p ++ List.replicate j 0)) Q) →
    OK ((impl_sequences_at_WorstOfMixture_1.bs k f).1 sv.length L mv sv us ns st o w (p ++ List.replicate j 0)) Q := by
  have hsl := hg.2.2.1
  intro j
  induction j with
  | zero =>
    intro p o w f z hp hin hf ho hc
    simp only [Fz] at hf
    obtain ⟨f, rfl⟩ : ∃ g, f = g + 1 := ⟨f - 1, by omega⟩
    simp only [impl_sequences_at_WorstOfMixture_1.bs, impl_sequences_at_WorstOfMixture_1.B1]
    rw [List.replicate_zero, List.append_nil] at hc ⊢
    refine OK.bind (worst_1 hk hg hM hst (by omega) hin) fun x hx => ?_
    have hb := mx_bd hg hM hst (q := p) (by omega) hin
    rw [w64_id (n := (L : Int) - 1) (by omega) (by omega), show (L : Int) - 1 = (p.length : Int) - 1 by omega]
    refine hc f x.1 x.2 (by omega) (by omega) fun t ht _ => ?_
    rw [List.eq_nil_of_length_eq_zero ht, List.append_nil]; omega
  | succ j ih =>
    intro p o w f z hp hin hf ho hc
    simp only [Fz] at hf
    -- the values of the next request, from c on
    have main : ∀ (d : Nat) (c : Nat) (o1 : Int) (w1 : List Int) (f : Nat), c + d + 1 = sv.length → z + (d + 1) * (Fz sv.length j + 1) ≤ f → (o ≤ o1 ∧ o1 ≤ 20000) →
        (∀ (x : Int) (t : List Int), t.length = j → Inr sv t → 0 ≤ x ∧ x < (c : Int) → mx mv sv us ns (p ++ x :: t) st ≤ o1) →
        OK ((impl_sequences_at_WorstOfMixture_1.bs k f).1 sv.length L mv sv us ns st o1 w1 ((p ++ [(c : Int)]) ++ List.replicate j 0)) Q := by
      intro d
      induction d with
      | zero =>
        intro c o1 w1 f hcd hf1 ho1 hcov
        refine ih (p ++ [(c : Int)]) o1 w1 f (z + 1) (by simp; omega) (fun x hx => (List.mem_append.1 hx).elim (hin x) fun h => by rw [List.mem_singleton.1 h]; omega) (by omega) (by omega) fun f' o' w' hf' ho' ht => ?_
        obtain ⟨f', rfl⟩ : ∃ g, f' = g + 1 := ⟨f' - 1, by omega⟩
        simp only [impl_sequences_at_WorstOfMixture_1.bs, impl_sequences_at_WorstOfMixture_1.B3]
        have hpl : ((p ++ [(c : Int)]).length : Int) - 1 = p.length := by simp
        have hsq : ((p ++ [(c : Int)]) ++ List.replicate j (0 : Int)).length = p.length + 1 + j := by rw [List.length_append, List.length_append, List.length_singleton, List.length_replicate]
        have hget : ((p ++ [(c : Int)]) ++ List.replicate j (0 : Int)).getD p.length 0 = c := by
          rw [List.append_assoc]
          simp [List.getD]
        have hset : ((p ++ [(c : Int)]) ++ List.replicate j (0 : Int)).set p.length 0 = p ++ List.replicate (j + 1) 0 := by
          rw [List.append_assoc]
          simp [List.replicate_succ]
        rw [hpl, Int.toNat_natCast, hsq, hget, hset, w64_id (n := (sv.length : Int) - 1) (by omega) (by omega), w64_id (n := (p.length : Int) - 1) (by omega) (by omega)]
        refine OK.bif (fun _ => OK.req (by omega) (OK.bif (fun _ => OK.req (by omega) ?_) fun h => by omega)) fun h => by omega
        refine hc f' o' w' (by omega) (by omega) fun t ht1 ht2 => ?_
        cases t with
        | nil => simp at ht1
        | cons x t =>
          rw [List.length_cons] at ht1
          have hx := ht2 x (by simp)
          have htin : Inr sv t := fun y hy => ht2 y (List.mem_cons_of_mem _ hy)
          by_cases hxc : x < (c : Int)
          · have := hcov x t (by omega) htin ⟨hx.1, hxc⟩; omega
          · have e : x = c := by omega
            have := ht t (by omega) htin
            rw [e]; rw [List.append_assoc] at this
            exact this
      | succ d ihd =>
        intro c o1 w1 f hcd hf1 ho1 hcov
        rw [Nat.succ_mul] at hf1
        refine ih (p ++ [(c : Int)]) o1 w1 f (z + (d + 1) * (Fz sv.length j + 1) + 1) (by simp; omega) (fun x hx => (List.mem_append.1 hx).elim (hin x) fun h => by rw [List.mem_singleton.1 h]; omega) (by omega) (by omega) fun f' o' w' hf' ho' ht => ?_
        obtain ⟨f', rfl⟩ : ∃ g, f' = g + 1 := ⟨f' - 1, by omega⟩
        simp only [impl_sequences_at_WorstOfMixture_1.bs, impl_sequences_at_WorstOfMixture_1.B3]
        have hpl : ((p ++ [(c : Int)]).length : Int) - 1 = p.length := by simp
        have hsq : ((p ++ [(c : Int)]) ++ List.replicate j (0 : Int)).length = p.length + 1 + j := by rw [List.length_append, List.length_append, List.length_singleton, List.length_replicate]
        have hget : ((p ++ [(c : Int)]) ++ List.replicate j (0 : Int)).getD p.length 0 = c := by
          rw [List.append_assoc]
          simp [List.getD]
        have hset : ((p ++ [(c : Int)]) ++ List.replicate j (0 : Int)).set p.length ((c : Int) + 1) = (p ++ [((c + 1 : Nat) : Int)]) ++ List.replicate j 0 := by
          rw [List.append_assoc]
          simp
        rw [hpl, Int.toNat_natCast, hsq, hget, w64_id (n := (sv.length : Int) - 1) (by omega) (by omega), w64_id (n := (p.length : Int) - 1) (by omega) (by omega), w64_id (n := (c : Int) + 1) (by omega) (by omega), hset]
        refine OK.bif (fun _ => OK.req (by omega) (OK.bif (fun h => by omega) fun _ => OK.bif (fun h => by omega) fun _ => OK.req (by omega) (OK.req (by omega) ?_))) fun h => by omega
        refine ihd (c + 1) o' w' f' (by omega) (by omega) (by omega) fun x t ht1 ht2 hx => ?_
        by_cases hxc : x < (c : Int)
        · have := hcov x t ht1 ht2 ⟨hx.1, hxc⟩; omega
        · have e : x = c := by omega
          have := ht t ht1 ht2
          rw [e]; rw [List.append_assoc] at this
          exact this
    have := main (sv.length - 1) 0 o w f (by omega) (by rw [show sv.length - 1 + 1 = sv.length by omega]; omega) (by omega) fun x t _ _ hx => by omega
    rw [show ((0 : Nat) : Int) = 0 from rfl, repl_snoc] at this
    exact this

theorem seqs_ok (hk : 2000000 ≤ k) (hg : GoodP mv sv) (hM : MixP mv sv us ns) (hst : 0 ≤ st ∧ st < (mv.length : Int)) (hL : L ≤ 4) :
    OK (impl_sequences_at_WorstOfMixture_1.f k sv.length L mv sv us ns st (-1) []) fun x => x.1 ≤ 20000 ∧ ∀ t : List Int, t.length = L → Inr sv t → mx mv sv us ns t st ≤ x.1 := by
  have hsl := hg.2.2.1
  simp only [impl_sequences_at_WorstOfMixture_1.f, impl_sequences_at_WorstOfMixture_1.B]
  refine OK.req (by omega) ?_
  rw [Int.toNat_natCast]
  have hF : Fz sv.length L ≤ 2000 := by
    have h1 : sv.length = 1 ∨ sv.length = 2 ∨ sv.length = 3 ∨ sv.length = 4 := by omega
    have h2 : L = 0 ∨ L = 1 ∨ L = 2 ∨ L = 3 ∨ L = 4 := by omega
    rcases h1 with e | e | e | e <;> rcases h2 with e' | e' | e' | e' | e' <;> rw [e, e'] <;> decide
  have := seqs_run (L := L) (Q := fun x => x.1 ≤ 20000 ∧ ∀ t : List Int, t.length = L → Inr sv t → mx mv sv us ns t st ≤ x.1) hk hg hM hst hL L [] (-1) [] k 1 (by simp) (fun x hx => by simp at hx) (by omega) (by omega) fun f' o' w' hf' ho' ht => by
    obtain ⟨f', rfl⟩ : ∃ g, f' = g + 1 := ⟨f' - 1, by omega⟩
    simp only [impl_sequences_at_WorstOfMixture_1.bs, impl_sequences_at_WorstOfMixture_1.B3]
    exact OK.bif (fun h => by simp at h) fun _ => OK.bif (fun _ => OK.ret ⟨ho'.2, fun t h1 h2 => ht t h1 h2⟩) fun h => by simp at h
  exact this
end
end Go.Proofs.Ytobfbgmglopdhaa
namespace Go.Proofs.Ytobfbgmglopdhaa
open Ab Pl

theorem foldl_min_le : ∀ (l : List Int) (x : Int), l.foldl min x ≤ x ∧ ∀ y ∈ l, l.foldl min x ≤ y
  | [], x => ⟨Int.le_refl _, fun y hy => by simp at hy⟩
  | z :: l, x => by
    have h := foldl_min_le l (min x z)
    rw [List.foldl_cons]
    refine ⟨by omega, fun y hy => ?_⟩
    rcases List.mem_cons.1 hy with rfl | hy
    · omega
    · exact h.2 y hy
theorem minL_le {l : List Int} {x : Int} (h : x ∈ l) : minL l ≤ x := by
  cases l with
  | nil => simp at h
  | cons y l =>
    show l.foldl min y ≤ x
    have h2 := foldl_min_le l y
    rcases List.mem_cons.1 h with rfl | h
    · exact h2.1
    · exact h2.2 x h
theorem best_le {sv : List (List Int)} {r b : Int} {g : Int → Int} (h : b ∈ srv sv r) : best sv r g ≤ g b := minL_le (List.mem_map.2 ⟨b, h, rfl⟩)

section
variable {mv sv cs : List (List Int)} {cw us : List Int} {ns : List (List (List Int))} {k : Nat}

/-- no algorithm is better than the best answers -/
theorem On_alg (hg : GoodP mv sv) (hc : ChP sv cw cs) {nx : List (List Int)} (hA : AlgP mv sv nx) : ∀ (m : Nat) (a : Int) (s : List Int), s.length + m = (cs.getD 0 []).length → 0 ≤ a → a < (mv.length : Int) →
    On mv sv cw cs m a s ≤ ((cw.zip cs).map fun p => if p.2.take s.length = s then p.1 * rc mv sv nx (p.2.drop s.length) a else 0).sum := by
  have h6 := hc.len6
  intro m
  induction m with
  | zero =>
    intro a s hl h0 h1
    rw [sum_zero']
    · exact Int.le_refl _
    · intro p hp
      have hq := (hc.2.2.2 p.2 (List.of_mem_zip hp).2).2.1
      rw [List.drop_eq_nil_of_le (by omega)]
      simp [rc]
  | succ m ih =>
    intro a s hl h0 h1
    have term : ∀ r ∈ idx sv.length, (if 0 < Wt cw cs (s ++ [r]) then best sv r fun b => Wt cw cs (s ++ [r]) * co mv sv a b r + On mv sv cw cs m b (s ++ [r]) else 0) ≤
        ((cw.zip cs).map fun p => if p.2.take (s.length + 1) = s ++ [r] then p.1 * (co mv sv a (ce nx a r) r + rc mv sv nx (p.2.drop (s.length + 1)) (ce nx a r)) else 0).sum := by
      intro r hr
      rw [idx_mem] at hr
      have ht := hA.to hg ⟨h0, h1⟩ hr
      have hlen : (s ++ [r]).length = s.length + 1 := by simp
      have hco := hg.co ⟨h0, h1⟩ hr ht.2.1
      split
      · refine Int.le_trans (best_le ht.2.1) ?_
        have h2 := ih (ce nx a r) (s ++ [r]) (by omega) ht.2.2.1 ht.2.2.2
        rw [hlen] at h2
        refine Int.le_trans (Int.add_le_add_left h2 _) (Int.le_of_eq ?_)
        rw [Int.mul_comm]
        unfold Wt
        rw [hlen, ← sum_cmul, ← sum_add]
        refine congrArg List.sum (List.map_congr_left fun p _ => ?_)
        split
        · rw [Int.mul_add, Int.mul_comm]
        · simp
      · have hz : ((cw.zip cs).map fun _ => (0 : Int)).sum = 0 := sum_zero' _ fun _ _ => rfl
        rw [← hz]
        refine sum_le _ fun p hp => ?_
        split
        · have hw := hc.2.2.1 p.1 (List.of_mem_zip hp).1
          have hq := hc.2.2.2 p.2 (List.of_mem_zip hp).2
          have hb := rc_bd hg hA (p.2.drop (s.length + 1)) (ce nx a r) (fun x hx => hq.2.2 x (List.mem_of_mem_drop hx)) ht.2.2
          exact Int.mul_nonneg (by omega) (by omega)
        · omega
    simp only [On]
    refine Int.le_trans (sum_le _ term) (Int.le_of_eq ?_)
    rw [sum_swap]
    refine congrArg List.sum (List.map_congr_left fun p hp => ?_)
    have hq := hc.2.2.2 p.2 (List.of_mem_zip hp).2
    have hq1 := hq.2.1
    have hlt : (s.length : Int) < p.2.length := by omega
    have htk := take_at (l := p.2) (i := (s.length : Int)) (d := 0) (by omega) hlt
    have hdr := drop_at (l := p.2) (i := (s.length : Int)) (d := 0) (by omega) hlt
    rw [show ((s.length : Int) + 1).toNat = s.length + 1 by omega, Int.toNat_natCast] at htk hdr
    have hr0 := hq.2.2 _ (getD_mem (l := p.2) (i := (s.length : Int)) (d := 0) (by omega) hlt)
    rw [Int.toNat_natCast] at hr0
    rw [htk]
    by_cases he : p.2.take s.length = s
    · rw [if_pos he, he, hdr, sum_one (r := p.2.getD s.length 0) hr0.1 hr0.2 fun x hx => ?_]
      · rw [if_pos rfl]
        simp only [rc]
      · refine if_neg fun e => hx ?_
        have := List.append_cancel_left e
        simpa using this.symm
    · rw [if_neg he, sum_zero]
      intro x _
      refine if_neg fun e => he ?_
      exact (List.append_inj' e rfl).1

theorem zip_sum : ∀ (us : List Int) {β : Type} (ns : List β), us.length = ns.length → ((us.zip ns).map (·.1)).sum = us.sum
  | [], _, [], _ => rfl
  | u :: us, _, n :: ns, h => by
    simp only [List.zip_cons_cons, List.map_cons, List.sum_cons]
    rw [zip_sum us ns (by simpa using h)]

theorem yao (hg : GoodP mv sv) (hc : ChP sv cw cs) (hM : MixP mv sv us ns) {st : Int} (hst : 0 ≤ st ∧ st < (mv.length : Int)) {o : Int}
    (ho : ∀ t : List Int, t.length = (cs.getD 0 []).length → Inr sv t → mx mv sv us ns t st ≤ o) :
    On mv sv cw cs (cs.getD 0 []).length st [] * us.sum ≤ o * cw.sum := by
  have hul : us.length = ns.length := by have := hM.2.1; omega
  rw [← zip_sum us ns hul, ← zip_sum cw cs hc.2.1, ← sum_cmul, ← sum_cmul]
  have s1 : ((us.zip ns).map fun p => On mv sv cw cs (cs.getD 0 []).length st [] * p.1).sum ≤ ((us.zip ns).map fun p => ((cw.zip cs).map fun x => p.1 * (x.1 * rc mv sv p.2 x.2 st)).sum).sum := by
    refine sum_le _ fun p hp => ?_
    have hA := hM.2.2.2 p.2 (List.of_mem_zip hp).2
    have hu := hM.2.2.1 p.1 (List.of_mem_zip hp).1
    have h := On_alg hg hc hA (cs.getD 0 []).length st [] (by simp) hst.1 hst.2
    simp only [List.length_nil, List.take_zero, List.drop_zero, if_true] at h
    rw [sum_cmul, Int.mul_comm]
    exact Int.mul_le_mul_of_nonneg_left h (by omega)
  refine Int.le_trans s1 ?_
  rw [sum_swap]
  refine sum_le _ fun x hx => ?_
  have hw := hc.2.2.1 x.1 (List.of_mem_zip hx).1
  have hq := hc.2.2.2 x.2 (List.of_mem_zip hx).2
  have h := ho x.2 (by have := hq.2.1; omega) hq.2.2
  have e : ((us.zip ns).map fun p => p.1 * (x.1 * rc mv sv p.2 x.2 st)) = (us.zip ns).map fun p => x.1 * (p.1 * rc mv sv p.2 x.2 st) :=
    List.map_congr_left fun p _ => by rw [Int.mul_left_comm]
  rw [e, sum_cmul, Int.mul_comm o]
  exact Int.mul_le_mul_of_nonneg_left h (by omega)

theorem worst_ok (hk : 2000000 ≤ k) (h1 : Mx mv) (h2 : Mx sv) (hg : GoodP mv sv) (hM : MixP mv sv us ns) (hz : Sz ns) (hu : us.length ≤ 100000) {st : Int} (hst : 0 ≤ st ∧ st < (mv.length : Int)) {L : Nat} (hL : L ≤ 4) :
    OK (impl_WorstOfMixture.f k mv sv us ns st L) fun x => x.2.2.1 = true ∧ ∃ o, (0 ≤ o ∧ o ≤ 20000) ∧ (∀ t : List Int, t.length = L → Inr sv t → mx mv sv us ns t st ≤ o) ∧ x.1 * us.sum = o * x.2.1 ∧ (0 ≤ x.1 ∧ x.1 ≤ o) ∧ (1 ≤ x.2.1 ∧ x.2.1 ≤ us.sum) ∧ 1 ≤ us.sum ∧ us.sum ≤ 36 := by
  have hS : StartP mv sv st [] := ⟨hg, hst, by simp, by simp⟩
  have hu1 : 1 ≤ us.sum ∧ us.sum ≤ 36 := by
    have hN : Nn 9 us := fun x hx => by have := hM.2.2.1 x hx; omega
    have h := hN.sum
    have hl := hM.1
    have hl2 := hM.2.1
    refine ⟨?_, by omega⟩
    cases us with
    | nil => simp at hl2; omega
    | cons x l =>
      have hx := hM.2.2.1 x (by simp)
      have := hN.mem_le x (by simp)
      omega
  simp only [impl_WorstOfMixture.f, impl_WorstOfMixture.B]
  rw [started_eq hk h1 h2 (by simp), isMix_eq hk hg hz hu]
  simp only [within_eq, Option.bind_some]
  refine OK.bifnd (fun h => absurd hS h) fun _ => OK.bifnd (fun h => absurd hM h) fun _ => OK.bifnd (fun h => absurd (by omega) h) fun _ => ?_
  refine OK.bind (seqs_ok hk hg hM hst hL) fun x hx => ?_
  have hsl := hg.2.2.1
  have h0 : 0 ≤ x.1 := by
    have hin : Inr sv (List.replicate L 0) := fun y hy => by
      have := List.eq_of_mem_replicate hy
      omega
    have := hx.2 (List.replicate L 0) (by simp) hin
    have := mx_bd hg hM hst (q := List.replicate L 0) (by simp; omega) hin
    omega
  rw [total_eq hk (by omega) (fun y hy => by have := hM.2.2.1 y hy; omega)]
  simp only [Option.bind_some]
  refine OK.bind (make_full hk (a := x.1) (b := us.sum) (by omega) (by omega)) fun y hy => OK.ret ⟨hy.1, x.1, ⟨h0, hx.1⟩, hx.2, hy.2.1, hy.2.2.1, hy.2.2.2, hu1⟩

theorem vAt_ok {code : List Int} (hb : By code) {i : Int} (hi : 0 ≤ i ∧ i ≤ 1000) : OK (laws_vAt.f code i) fun r => 0 ≤ r ∧ r < 256 := by
  simp only [laws_vAt.f, laws_vAt.B]
  refine OK.bif (fun h => OK.req ⟨hi.1, h⟩ (OK.ret ?_)) fun h => OK.req (by omega) (OK.ret ?_)
  · have := hb _ (getD_mem (d := 0) hi.1 h)
    rw [w64_id (by omega) (by omega)]; exact this
  · rw [w64_id (n := i * 7) (by omega) (by omega), w64_id (n := i * 7 + (code.length : Int)) (by omega) (by omega)]
    exact ⟨Int.tmod_nonneg 256 (by omega), Int.tmod_lt_of_pos _ (by omega)⟩
end

open Classical in
theorem FnYao_pure (code : List Int) (hb : ∀ x ∈ code, 0 ≤ x ∧ x < 256) : ∃ k, laws_FnYao.f k code = some true := by
  obtain ⟨k, hk⟩ : ∃ k : Nat, 2000000 ≤ k := ⟨2000000, Nat.le_refl _⟩
  refine ⟨k, OK.some ?_⟩
  simp only [laws_FnYao.f, laws_FnYao.B, laws_vBig.f, laws_vBig.B, Option.bind_some]
  refine OK.bif (fun _ => OK.ret rfl) fun _ => ?_
  refine OK.bind (drawCh_ok hb hk) ?_
  rintro ⟨mv, sv, cw, cs⟩ ⟨p1, p2, p3, p4⟩
  dsimp only at p1 p2 p3 p4 ⊢
  refine OK.bind (drawMix_ok hb hk) ?_
  rintro ⟨_, _, us, ns⟩ ⟨q1, q2⟩
  dsimp only at q1 q2 ⊢
  simp only [impl_IsChances.f, impl_IsChances.B, impl_IsMixture.f, impl_IsMixture.B, spec_IsChances.f, spec_IsChances.B, spec_IsMixture.f, spec_IsMixture.B]
  rw [problemI_eq hk p1 p2, problemS_eq hk p1 p2]
  by_cases hg : GoodP mv sv
  · rw [chances_eq hk p2 p4 p3, chancesS_eq hk p1 p2 p4 p3, isMix_eq hk hg q2 q1, mixS_eq hk p1 p2 hg q2 q1]
    rw [decide_eq_true hg]
    simp only [Option.bind_some, Bool.not_true, cond_false, hg, true_and, decide_true]
    refine OK.bind (vAt_ok hb (by omega)) fun t ht => OK.req (by omega) ?_
    refine OK.bifnd (fun _ => OK.ret rfl) fun hc => OK.bifnd (fun _ => OK.ret rfl) fun hM => ?_
    have t1 := Int.tmod_nonneg 4 ht.1
    refine OK.bif (fun _ => OK.ret rfl) fun hst => ?_
    have hst : 0 ≤ Int.tmod t 4 ∧ Int.tmod t 4 < (mv.length : Int) := by omega
    generalize Int.tmod t 4 = st at hst
    have hcl := hc.1
    refine OK.req (by omega) (OK.bif (fun _ => OK.ret rfl) fun hL => OK.req (by omega) ?_)
    refine OK.bind (worst_ok hk p1 p2 hg hM q2 q1 hst (L := (cs.getD 0 []).length) (by omega)) fun x hx => ?_
    obtain ⟨x1, o, o1, o2, x2, x3, x4, x5, x6⟩ := hx
    have hD : DrP mv sv st cw cs := ⟨⟨hg, hst, by simp, by simp⟩, hc⟩
    rw [(bestE_eq hk p1 p2 p4 p3).1 hD]
    have hO := On_bd hg hc (cs.getD 0 []).length st [] hst.1 hst.2
    have hB := OnB_bd hc.len6
    have hT := cwNn hc
    refine OK.bind (make_full hk (a := On mv sv cw cs (cs.getD 0 []).length st []) (b := cw.sum) (by omega) (by omega)) fun y hy => ?_
    obtain ⟨y1, y2, y3, y4⟩ := hy
    rw [x1, y1]
    simp only [cond_true, laws_vAtMost.f, laws_vAtMost.B, Option.bind_some]
    refine OK.ret ?_
    have hyao := yao hg hc hM hst o2
    have b1 := mulbd (A := 80000000) (B := 36) (show 0 ≤ y.1 ∧ y.1 ≤ 80000000 by omega) (show 0 ≤ x.2.1 ∧ x.2.1 ≤ 36 by omega)
    have b2 := mulbd (A := 20000) (B := 108) (show 0 ≤ x.1 ∧ x.1 ≤ 20000 by omega) (show 0 ≤ y.2.1 ∧ y.2.1 ≤ 108 by omega)
    rw [w64_id (n := y.1 * x.2.1) (by omega) (by omega), w64_id (n := x.1 * y.2.1) (by omega) (by omega)]
    exact decide_eq_true (frac_le y2 x2 hT.2 x5 y4.1 x4.1 hyao)
  · rw [decide_eq_false hg]
    simp only [Option.bind_some, Bool.not_false, cond_true, decide_true, Bool.not_true, cond_false]
    exact OK.bind (vAt_ok hb (by omega)) fun t ht => OK.req (by omega) (OK.ret rfl)
end Go.Proofs.Ytobfbgmglopdhaa
