/- Proved: for every string of bytes the plain form of the law FnChances answers true; no condition. -/
import Derived.Test.YtobfbgmglopdhaaGreatP1
set_option linter.unusedVariables false
set_option linter.unusedSimpArgs false
namespace Go.Proofs.YtobfbgmglopdhaaGreat
open Ab Pl

section
variable {mv sv cs : List (List Int)} {cw : List Int} {k : Nat}

theorem own_eq {l : List Int} (hl : l.length ≤ 1000000) : spec_l1Own.f l = some l := by
  simp only [spec_l1Own.f, spec_l1Own.B]
  rw [if_pos (by rw [capB_eq]; omega)]; rfl

theorem same_eq (hk : 2000000 ≤ k) {a b : List Int} (hl : a.length ≤ 1000000) : spec_l1Same.f k a b = some (decide (a = b)) := by
  simp only [spec_l1Same.f, spec_l1Same.B]
  by_cases hab : (a.length : Int) = b.length
  · simp only [hab, decide_true, Bool.not_true, cond_false]
    have main : ∀ (d f : Nat) (i : Int), d + 1 ≤ f → i + d = b.length → 0 ≤ i → spec_l1Same.bs k f a b i = some (decide (a.drop i.toNat = b.drop i.toNat)) := by
      intro d
      induction d with
      | zero =>
        intro f i hf hi h0
        obtain ⟨f, rfl⟩ : ∃ g, f = g + 1 := ⟨f - 1, by omega⟩
        simp only [spec_l1Same.bs, spec_l1Same.B4]
        rw [drop_end (l := a) (by omega), drop_end (l := b) (by omega)]
        have : ¬ i < (a.length : Int) := by omega
        simp [this]
      | succ d ih =>
        intro f i hf hi h0
        obtain ⟨f, rfl⟩ : ∃ g, f = g + 1 := ⟨f - 1, by omega⟩
        simp only [spec_l1Same.bs, spec_l1Same.B4]
        have h1 : i < (b.length : Int) := by omega
        have h2 : i < (a.length : Int) := by omega
        rw [drop_at (l := a) (d := 0) h0 h2, drop_at (l := b) (d := 0) h0 h1, w64_id (n := i + 1) (by omega) (by omega), ih f (i + 1) (by omega) (by omega) (by omega)]
        simp only [h0, h1, h2, decide_true, cond_true, and_self, if_true, List.cons.injEq]
        by_cases hx : a.getD i.toNat 0 = b.getD i.toNat 0
        · rw [hx]; simp
        · simp only [hx, decide_false, Bool.not_false, cond_true, false_and]
    have := main b.length k 0 (by omega) (by omega) (by omega)
    simpa using this
  · have : ¬ a = b := fun e => hab (by rw [e])
    simp [hab, this]

theorem begins_eq (hk : 2000000 ≤ k) {q seen : List Int} (hq : q.length ≤ 1000000) : spec_l11Begins.f k q seen = some (decide (q.take seen.length = seen)) := by
  simp only [spec_l11Begins.f, spec_l11Begins.B]
  by_cases hlen : (seen.length : Int) ≤ q.length
  · rw [if_pos ⟨by omega, by omega, hlen⟩, Int.toNat_natCast, same_eq hk (by rw [List.length_take]; omega)]
    simp only [hlen, decide_true, cond_true, Option.bind_some]
  · have he : ¬ q.take seen.length = seen := fun e => by
      have := congrArg List.length e
      rw [List.length_take] at this; omega
    simp only [hlen, he, decide_false, cond_false]

theorem weightS_eq (hk : 2000000 ≤ k) (hc : Sh cs) (hw : cw.length = cs.length) (hb : ∀ x ∈ cw, 0 ≤ x ∧ x ≤ 1000) {seen : List Int} : spec_l11Weight.f k cw cs seen = some (Wt cw cs seen) := by
  simp only [spec_l11Weight.f, spec_l11Weight.B]
  have n1 := hc.1
  have main : ∀ (d f : Nat) (i s : Int), d + 1 ≤ f → i + d = cs.length → 0 ≤ i → 0 ≤ s → s ≤ 1000 * i → spec_l11Weight.bs k f seen s i cw cs =
      some (s + (((cw.zip cs).drop i.toNat).map fun p => if p.2.take seen.length = seen then p.1 else 0).sum) := by
    intro d
    induction d with
    | zero =>
      intro f i s hf hi h0 hs0 hs1
      obtain ⟨f, rfl⟩ : ∃ g, f = g + 1 := ⟨f - 1, by omega⟩
      simp only [spec_l11Weight.bs, spec_l11Weight.B3]
      rw [drop_end (by rw [List.length_zip]; omega)]
      have : ¬ i < (cs.length : Int) := by omega
      simp [this]
    | succ d ih =>
      intro f i s hf hi h0 hs0 hs1
      obtain ⟨f, rfl⟩ : ∃ g, f = g + 1 := ⟨f - 1, by omega⟩
      simp only [spec_l11Weight.bs, spec_l11Weight.B3]
      have h1 : i < (cs.length : Int) := by omega
      have h2 : i < (cw.length : Int) := by omega
      have hq := hc.2 _ (getD_mem (d := []) h0 h1)
      have hx := hb _ (getD_mem (d := 0) h0 h2)
      have hz : (cw.zip cs).getD i.toNat (0, []) = (cw.getD i.toNat 0, cs.getD i.toNat []) := by
        have e1 : i.toNat < cw.length := by omega
        have e2 : i.toNat < cs.length := by omega
        have e3 : i.toNat < (cw.zip cs).length := by rw [List.length_zip]; omega
        simp only [List.getD, List.getElem?_eq_getElem e1, List.getElem?_eq_getElem e2, List.getElem?_eq_getElem e3, Option.getD_some, List.getElem_zip]
      rw [drop_at (l := cw.zip cs) (d := (0, [])) h0 (by rw [List.length_zip]; omega), hz, List.map_cons, List.sum_cons, w64_id (n := i + 1) (by omega) (by omega), w64_id (n := s + _) (by omega) (by omega)]
      rw [begins_eq hk (by omega)]
      simp only [h0, h1, h2, decide_true, cond_true, and_self, if_true, Option.bind_some]
      generalize cs.getD i.toNat [] = q at hq
      generalize cw.getD i.toNat 0 = x at hx
      by_cases he : q.take seen.length = seen
      · simp only [he, decide_true, cond_true, if_true]
        rw [ih f (i + 1) _ (by omega) (by omega) (by omega) (by omega) (by omega)]
        congr 1; omega
      · simp only [he, decide_false, cond_false, if_false]
        rw [ih f (i + 1) _ (by omega) (by omega) (by omega) (by omega) (by omega)]
        congr 1; omega
  have := main cs.length k 0 0 (by omega) (by omega) (by omega) (by omega) (by omega)
  simpa [Wt] using this

/-- the spec's way to the first state with the least value -/
def rq (g : Int → Int) (l : List Int) (p : Int × Int) : Int × Int := l.foldl (fun p b => if p.2 < 0 then (b, g b) else if g b < p.2 then (b, g b) else p) p
theorem rq_rp (g : Int → Int) : ∀ (l : List Int) (p : Int × Int), 0 ≤ p.2 → (∀ b ∈ l, 0 ≤ g b) → rq g l p = rp g l p
  | [], p, _, _ => rfl
  | b :: l, p, h0, h => by
    have hb := h b (by simp)
    show rq g l (if p.2 < 0 then (b, g b) else if g b < p.2 then (b, g b) else p) = rp g l (if g b < p.2 then (b, g b) else p)
    rw [if_neg (by omega)]
    exact rq_rp g l _ (by split <;> simp_all) fun x hx => h x (List.mem_cons_of_mem _ hx)
theorem rq_first {g : Int → Int} {l : List Int} (h : l ≠ []) (hb : ∀ b ∈ l, 0 ≤ g b ∧ g b < 1073741824) : rq g l (0, -1) = rp g l (-1, 1073741824) := by
  cases l with
  | nil => exact absurd rfl h
  | cons b l =>
    have h1 := hb b (by simp)
    show rq g l (if (-1 : Int) < 0 then (b, g b) else _) = rp g l (if g b < 1073741824 then (b, g b) else _)
    rw [if_pos (by omega), if_pos h1.2]
    exact rq_rp g l _ h1.1 fun x hx => (hb x (List.mem_cons_of_mem _ hx)).1

variable {seen : List Int}
theorem replyS_eq (hk : 2000000 ≤ k) (hg : GoodP mv sv) (hsh : Sh cs) (hc : ChP sv cw cs) {m d : Nat} (hm : m ≤ 5) {a r : Int} (ha : 0 ≤ a ∧ a < (mv.length : Int)) (hr : 0 ≤ r ∧ r < (sv.length : Int)) (hs : seen.length ≤ 1000)
    (hon : ∀ b, 0 ≤ b → b < (mv.length : Int) → spec_l11Ahead.f k d mv sv b cw cs (seen ++ [r]) = some (On mv sv cw cs m b (seen ++ [r]))) :
    spec_l11Reply.f k (d + 1) mv sv a cw cs (seen ++ [r]) = some (rp (fun b => Wt cw cs (seen ++ [r]) * co mv sv a b r + On mv sv cw cs m b (seen ++ [r])) (srv sv r) (-1, 1073741824)) := by
  show spec_l11Reply.B k (spec_l11Reply.f k d) (spec_l11Ahead.f k d) (spec_l11Reply.bs k (spec_l11Reply.f k d) (spec_l11Ahead.f k d) k) mv sv a cw cs (seen ++ [r]) = _
  simp only [spec_l11Reply.B]
  have hlen : ((seen ++ [r]).length : Int) = seen.length + 1 := by simp
  have hlast : (seen ++ [r]).getD ((seen.length : Int) + 1 - 1).toNat 0 = r := by
    rw [show ((seen.length : Int) + 1 - 1).toNat = seen.length by omega]
    simp [List.getD]
  rw [hlen, w64_id (n := (seen.length : Int) + 1 - 1) (by omega) (by omega), if_pos (by omega), hlast]
  have hml := hg.1
  have hrow := (hg.row hr).1
  have hB := OnB_bd (show m ≤ 6 by omega)
  rw [← rq_first (hg.row hr).2.1 (fun b hb => by
    have := On_g hg hc (On_bd hg hc m) ha hr (seen ++ [r]) (seen ++ [r]) b hb
    omega), ← srvF_all hg hr]
  have main : ∀ (e f : Nat) (i : Nat) (p : Int × Int), e + 1 ≤ f → i + e = mv.length →
      spec_l11Reply.bs k (spec_l11Reply.f k d) (spec_l11Ahead.f k d) f a (seen ++ [r]) r p.1 p.2 i mv sv cw cs =
        some (rq (fun b => Wt cw cs (seen ++ [r]) * co mv sv a b r + On mv sv cw cs m b (seen ++ [r])) (srvF sv r i e) p) := by
    intro e
    induction e with
    | zero =>
      intro f i p hf hi
      obtain ⟨f, rfl⟩ : ∃ g, f = g + 1 := ⟨f - 1, by omega⟩
      simp only [spec_l11Reply.bs, spec_l11Reply.B5]
      have : ¬ (i : Int) < (mv.length : Int) := by omega
      simp only [this, decide_false, cond_false]
      rfl
    | succ e ih =>
      intro f i p hf hi
      obtain ⟨f, rfl⟩ : ∃ g, f = g + 1 := ⟨f - 1, by omega⟩
      simp only [spec_l11Reply.bs, spec_l11Reply.B5]
      have h1 : (i : Int) < (mv.length : Int) := by omega
      have h0 : 0 ≤ (i : Int) := by omega
      have h2 : (i : Int) < ((sv.getD r.toNat []).length : Int) := by omega
      have hsq := hg.sq.row ha.1 ha.2
      have h3 : (i : Int) < ((mv.getD a.toNat []).length : Int) := by omega
      have e1 : (sv.getD r.toNat []).getD (i : Int).toNat 0 = ce sv r i := rfl
      have e2 : (mv.getD a.toNat []).getD (i : Int).toNat 0 + ce sv r i = co mv sv a i r := rfl
      rw [e1, e2, weightS_eq hk hsh hc.2.1 (fun x hx => by have := hc.2.2.1 x hx; omega), hon _ h0 h1, w64_id (n := (i : Int) + 1) (by omega) (by omega), show (i : Int) + 1 = ((i + 1 : Nat) : Int) by omega, srvF_succ]
      simp only [h0, h1, h2, h3, hr, ha, decide_true, cond_true, and_self, if_true, Option.bind_some]
      by_cases hce : 0 ≤ ce sv r i
      · have hin : (i : Int) ∈ srv sv r := srvF_sub (i := i) (d := e + 1) (by rw [srvF_succ, if_pos hce]; simp) (by omega)
        have hv := On_g hg hc (On_bd hg hc m) ha hr (seen ++ [r]) (seen ++ [r]) _ hin
        have hw := mulbd (Wt_bd hc (seen ++ [r])) (hg.co ha hr hin)
        have hco := hg.co ha hr hin
        simp only [hce, decide_true, cond_true, if_true]
        rw [w64_id (n := co mv sv a i r) (by omega) (by omega), w64_id (n := Wt cw cs (seen ++ [r]) * _) (by omega) (by omega), w64_id (n := Wt cw cs (seen ++ [r]) * _ + _) (by omega) (by omega)]
        have step : ∀ l, rq (fun b => Wt cw cs (seen ++ [r]) * co mv sv a b r + On mv sv cw cs m b (seen ++ [r])) ((i : Int) :: l) p =
            rq (fun b => Wt cw cs (seen ++ [r]) * co mv sv a b r + On mv sv cw cs m b (seen ++ [r])) l (if p.2 < 0 then ((i : Int), Wt cw cs (seen ++ [r]) * co mv sv a i r + On mv sv cw cs m i (seen ++ [r])) else if Wt cw cs (seen ++ [r]) * co mv sv a i r + On mv sv cw cs m i (seen ++ [r]) < p.2 then ((i : Int), Wt cw cs (seen ++ [r]) * co mv sv a i r + On mv sv cw cs m i (seen ++ [r])) else p) := fun l => rfl
        rw [step]
        by_cases hp : p.2 < 0
        · simp only [hp, decide_true, cond_true, if_true]
          exact ih f (i + 1) ((i : Int), _) (by omega) (by omega)
        · by_cases hlt : Wt cw cs (seen ++ [r]) * co mv sv a i r + On mv sv cw cs m i (seen ++ [r]) < p.2
          · simp only [hp, hlt, decide_true, decide_false, cond_false, cond_true, if_true, if_false]
            exact ih f (i + 1) ((i : Int), _) (by omega) (by omega)
          · simp only [hp, hlt, decide_false, cond_false, if_false]
            exact ih f (i + 1) p (by omega) (by omega)
      · simp only [hce, decide_false, cond_false, if_false]
        exact ih f (i + 1) p (by omega) (by omega)
  exact main mv.length k 0 (0, -1) (by omega) (by omega)

theorem aheadS_eq (hk : 2000000 ≤ k) (hg : GoodP mv sv) (hsh : Sh cs) (hc : ChP sv cw cs) : ∀ (m : Nat) (d : Nat) (a : Int) (seen : List Int), m ≤ 6 → seen.length + m = (cs.getD 0 []).length → 2 * m + 1 ≤ d → 0 ≤ a → a < (mv.length : Int) →
    spec_l11Ahead.f k d mv sv a cw cs seen = some (On mv sv cw cs m a seen) := by
  intro m
  induction m with
  | zero =>
    intro d a seen hm hl hd h0 h1
    obtain ⟨d, rfl⟩ : ∃ g, d = g + 1 := ⟨d - 1, by omega⟩
    have hcl := hc.1
    show spec_l11Ahead.B k (spec_l11Reply.f k d) (spec_l11Ahead.f k d) (spec_l11Ahead.bs k (spec_l11Reply.f k d) (spec_l11Ahead.f k d) k) mv sv a cw cs seen = _
    simp only [spec_l11Ahead.B]
    have e : (seen.length : Int) = (cs.getD 0 []).length := by omega
    rw [if_pos (by omega)]
    simp only [e, decide_true, cond_true]
    rfl
  | succ m ihm =>
    intro d a seen hm hl hd h0 h1
    obtain ⟨d, rfl⟩ : ∃ g, d = g + 1 + 1 := ⟨d - 2, by omega⟩
    have hsl := hg.2.2.1
    have hcl := hc.1
    have hlen6 : (cs.getD 0 []).length ≤ 6 := (hc.2.2.2 _ (getD_mem (i := 0) (d := []) (by omega) (by omega))).1
    show spec_l11Ahead.B k (spec_l11Reply.f k (d + 1)) (spec_l11Ahead.f k (d + 1)) (spec_l11Ahead.bs k (spec_l11Reply.f k (d + 1)) (spec_l11Ahead.f k (d + 1)) k) mv sv a cw cs seen = _
    simp only [spec_l11Ahead.B]
    have ene : ¬ (seen.length : Int) = (cs.getD 0 []).length := by omega
    rw [if_pos (by omega)]
    simp only [ene, decide_false, cond_false]
    have hB := OnB_bd (show m ≤ 6 by omega)
    let G : Int → Int := fun r => if 0 < Wt cw cs (seen ++ [r]) then best sv r fun b => Wt cw cs (seen ++ [r]) * co mv sv a b r + On mv sv cw cs m b (seen ++ [r]) else 0
    have hG : ∀ r, 0 ≤ r → r < (sv.length : Int) → 0 ≤ G r ∧ G r ≤ 100000000 := fun r hr0 hr1 => by
      simp only [G]
      split
      · have := best_bd (hg.row ⟨hr0, hr1⟩).2.1 (On_g hg hc (On_bd hg hc m) ⟨h0, h1⟩ ⟨hr0, hr1⟩ (seen ++ [r]) (seen ++ [r]))
        omega
      · omega
    have main : ∀ (e f : Nat) (i : Nat) (s : Int), e + 1 ≤ f → i + e = sv.length → s = ((idx i).map G).sum → spec_l11Ahead.bs k (spec_l11Reply.f k (d + 1)) (spec_l11Ahead.f k (d + 1)) f a seen s i mv sv cw cs = some (On mv sv cw cs (m + 1) a seen) := by
      intro e
      induction e with
      | zero =>
        intro f i s hf hi hs
        obtain ⟨f, rfl⟩ : ∃ g, f = g + 1 := ⟨f - 1, by omega⟩
        simp only [spec_l11Ahead.bs, spec_l11Ahead.B5]
        have : ¬ (i : Int) < (sv.length : Int) := by omega
        simp only [this, decide_false, cond_false]
        rw [hs, show i = sv.length by omega]; rfl
      | succ e ih =>
        intro f i s hf hi hs
        obtain ⟨f, rfl⟩ : ∃ g, f = g + 1 := ⟨f - 1, by omega⟩
        simp only [spec_l11Ahead.bs, spec_l11Ahead.B5]
        have h1i : (i : Int) < (sv.length : Int) := by omega
        have hsb : 0 ≤ s ∧ s ≤ 100000000 * i := by
          have : Nn 100000000 ((idx i).map G) := fun x hx => by
            obtain ⟨r, hr, rfl⟩ := List.mem_map.1 hx
            rw [idx_mem] at hr
            exact hG r hr.1 (by omega)
          have := this.sum
          rw [List.length_map, idx_len] at this
          rw [hs]; exact this
        have hGi := hG i (by omega) h1i
        rw [own_eq (by omega)]
        simp only [Option.bind_some]
        rw [weightS_eq hk hsh hc.2.1 (fun x hx => by have := hc.2.2.1 x hx; omega), if_pos (by rw [capB_eq]; omega), w64_id (n := (i : Int) + 1) (by omega) (by omega)]
        simp only [h1i, decide_true, cond_true, Option.bind_some]
        have hsum : ((idx (i + 1)).map G).sum = s + G i := by rw [idx_succ, List.map_append, List.sum_append, hs]; simp
        by_cases hW : 0 < Wt cw cs (seen ++ [(i : Int)])
        · have hrep := replyS_eq (d := d) hk hg hsh hc (m := m) (by omega) (a := a) (r := (i : Int)) ⟨h0, h1⟩ ⟨by omega, h1i⟩ (seen := seen) (by omega) fun b hb0 hb1 => ihm d b (seen ++ [(i : Int)]) (by omega) (by rw [List.length_append, List.length_singleton]; omega) (by omega) hb0 hb1
          rw [hrep]
          simp only [hW, decide_true, cond_true, Option.bind_some]
          rw [rp_best hg hc (by omega) ⟨h0, h1⟩ ⟨by omega, h1i⟩]
          have eG : (best sv i fun b => Wt cw cs (seen ++ [(i : Int)]) * co mv sv a b i + On mv sv cw cs m b (seen ++ [(i : Int)])) = G i := by
            show _ = if _ then _ else _
            rw [if_pos hW]
          rw [eG, w64_id (n := s + G i) (by omega) (by omega), show (i : Int) + 1 = ((i + 1 : Nat) : Int) by omega]
          exact ih f (i + 1) _ (by omega) (by omega) hsum.symm
        · have eG : G i = 0 := by
            show (if _ then _ else _) = _
            rw [if_neg hW]
          simp only [hW, decide_false, cond_false]
          rw [show (i : Int) + 1 = ((i + 1 : Nat) : Int) by omega]
          exact ih f (i + 1) _ (by omega) (by omega) (by rw [hsum, eG]; omega)
    exact main sv.length k 0 0 (by omega) (by omega) rfl
end
end Go.Proofs.YtobfbgmglopdhaaGreat
namespace Go.Proofs.YtobfbgmglopdhaaGreat
open Ab Pl

section
variable {mv sv cs : List (List Int)} {cw : List Int} {k : Nat}

open Classical in
theorem chancesS_eq (hk : 2000000 ≤ k) (h1 : Mx mv) (h2 : Mx sv) (hc : Sh cs) (hw : cw.length ≤ 100000) : spec_l11Chances.f k mv sv cw cs = some (decide (GoodP mv sv ∧ ChP sv cw cs)) := by
  have n1 := hc.1
  simp only [spec_l11Chances.f, spec_l11Chances.B, problemS_eq hk h1 h2, in_eq, Option.bind_some, weightsS_eq hk (l := cw) (n := 1) (by omega)]
  by_cases a0 : GoodP mv sv
  · have hml := a0.1
    by_cases a1 : 1 ≤ (cs.length : Int) ∧ (cs.length : Int) ≤ 12
    · have e : spec_l11Chances.bs k k 0 mv sv cw cs = some ((cs.drop 0).all fun q => decide (SeqP sv (cs.getD 0 []).length q)) := by
        refine allLoop (L := fun f i => spec_l11Chances.bs k f i mv sv cw cs) (d := []) (fun f i h0 h1' => ?_) (fun f i h => ?_) cs.length k 0 (by omega) (by omega) (by omega)
        · simp only [spec_l11Chances.bs, spec_l11Chances.B4, h0, h1', decide_true, cond_true, and_self, if_true]
          have hq := hc.2 _ (getD_mem (d := []) h0 h1')
          rw [if_pos (by omega), takes_eq hk h1 h2 hq, w64_id (n := i + 1) (by omega) (by omega)]
          generalize cs.getD i.toNat [] = q at hq
          by_cases b1 : (q.length : Int) = (cs.getD 0 []).length
          · by_cases b2 : (6 : Int) < q.length
            · have : ¬ SeqP sv (cs.getD 0 []).length q := fun h => by have := h.1; omega
              rw [decide_eq_false this, decide_eq_true b1, decide_eq_true b2]; rfl
            · have b3 : StartP mv sv 0 q ↔ SeqP sv (cs.getD 0 []).length q := ⟨fun h => ⟨by omega, b1, h.2.2.2⟩, fun h => ⟨a0, by omega, by omega, h.2.2⟩⟩
              simp only [b2, decide_false, cond_false, Option.bind_some]
              rw [b1]
              simp only [decide_true, Bool.not_true, cond_false, decide_eq_decide.2 b3]
          · have : ¬ SeqP sv (cs.getD 0 []).length q := fun h => b1 h.2.1
            rw [decide_eq_false this, decide_eq_false b1]; rfl
        · have : ¬ i < (cs.length : Int) := by omega
          simp only [spec_l11Chances.bs, spec_l11Chances.B4, this, decide_false, cond_false]
      rw [e]
      by_cases a2 : (cw.length : Int) = cs.length
      · cases a3 : (cw.all fun c => decide (1 ≤ c ∧ c ≤ 9)) with
        | true =>
          simp only [a0, a1, a2, decide_true, and_self, Bool.not_true, cond_false]
          congr 1
          rw [Bool.eq_iff_iff]
          simp only [decide_eq_true_iff, List.drop_zero, List.all_eq_true, true_and]
          exact ⟨fun h => ⟨by omega, by omega, allIn.1 a3, fun q hq => h q hq⟩, fun h q hq => h.2.2.2 q hq⟩
        | false =>
          have : ¬ ChP sv cw cs := fun h => by
            have := allIn.2 h.2.2.1
            rw [a3] at this; simp at this
          simp [a0, a1, a2, this]
      · have : ¬ ChP sv cw cs := fun h => a2 (by have := h.2.1; omega)
        simp [a0, a1, a2, this]
    · have : ¬ ChP sv cw cs := fun h => a1 (by have := h.1; omega)
      simp [a0, a1, this]
  · simp [a0]

open Classical in
theorem startS_eq (hk : 2000000 ≤ k) (h1 : Mx mv) (h2 : Mx sv) (hc : Sh cs) (hw : cw.length ≤ 100000) {st : Int} : spec_l11Start.f k mv sv st cw cs = some (decide (DrP mv sv st cw cs)) := by
  have n1 := h1.1
  simp only [spec_l11Start.f, spec_l11Start.B, chancesS_eq hk h1 h2 hc hw, in_eq, Option.bind_some]
  rw [w64_id (n := (mv.length : Int) - 1) (by omega) (by omega)]
  by_cases a1 : GoodP mv sv ∧ ChP sv cw cs
  · simp only [a1, decide_true, cond_true, and_self]
    congr 1
    rw [decide_eq_decide]
    exact ⟨fun h => ⟨⟨a1.1, by omega, by simp, by simp⟩, a1.2⟩, fun h => by have := h.1.2.1; omega⟩
  · have : ¬ DrP mv sv st cw cs := fun h => a1 ⟨h.1.1, h.2⟩
    simp [a1, this]

/-- the state that a best reply goes to -/
def nx (mv sv : List (List Int)) (cw : List Int) (cs : List (List Int)) (m : Nat) (a : Int) (s : List Int) (r : Int) : Int :=
  (rp (fun b => Wt cw cs (s ++ [r]) * co mv sv a b r + On mv sv cw cs m b (s ++ [r])) (srv sv r) (-1, 1073741824)).1

theorem ChP.len6 (hc : ChP sv cw cs) : (cs.getD 0 []).length ≤ 6 := by
  have hcl := hc.1
  exact (hc.2.2.2 _ (getD_mem (i := 0) (d := []) (by omega) (by omega))).1

/-- what has a weight is the beginning of a sequence -/
theorem Wt_form (hc : ChP sv cw cs) {seen : List Int} (h0 : seen ≠ []) (hW : Wt cw cs seen ≠ 0) : ∃ s r m, seen = s ++ [r] ∧ (0 ≤ r ∧ r < (sv.length : Int)) ∧ s.length + 1 + m = (cs.getD 0 []).length := by
  have : ∃ p ∈ cw.zip cs, p.2.take seen.length = seen := by
    refine Classical.byContradiction fun hn => hW ?_
    unfold Wt
    have : ∀ x ∈ ((cw.zip cs).map fun p => if p.2.take seen.length = seen then p.1 else 0), x = 0 := by
      intro x hx
      obtain ⟨p, hp, rfl⟩ := List.mem_map.1 hx
      exact if_neg fun e => hn ⟨p, hp, e⟩
    have hN : Nn 0 ((cw.zip cs).map fun p => if p.2.take seen.length = seen then p.1 else 0) := fun x hx => by have := this x hx; omega
    have := hN.sum
    omega
  obtain ⟨p, hp, e⟩ := this
  have hq := hc.2.2.2 p.2 (List.of_mem_zip hp).2
  have hl := congrArg List.length e
  rw [List.length_take] at hl
  refine ⟨seen.dropLast, seen.getLast h0, (cs.getD 0 []).length - seen.length, (List.dropLast_concat_getLast h0).symm, ?_, ?_⟩
  · refine hq.2.2 _ (List.mem_of_mem_take (i := seen.length) ?_)
    rw [e]; exact List.getLast_mem h0
  · have := hq.2.1
    have hpos := List.length_pos_iff.2 h0
    rw [List.length_dropLast]; omega

/-! what the replies cost -/
theorem rp_mem (g : Int → Int) : ∀ (l : List Int) (p : Int × Int), rp g l p = p ∨ ((rp g l p).1 ∈ l ∧ (rp g l p).2 = g (rp g l p).1)
  | [], p => .inl rfl
  | b :: l, p => by
    show rp g l (if g b < p.2 then (b, g b) else p) = p ∨ ((rp g l (if g b < p.2 then (b, g b) else p)).1 ∈ b :: l ∧ (rp g l (if g b < p.2 then (b, g b) else p)).2 = g (rp g l (if g b < p.2 then (b, g b) else p)).1)
    rcases rp_mem g l (if g b < p.2 then (b, g b) else p) with h | h
    · rw [h]
      split
      · exact .inr ⟨by simp, rfl⟩
      · exact .inl rfl
    · exact .inr ⟨List.mem_cons_of_mem _ h.1, h.2⟩

theorem nx_ok (hg : GoodP mv sv) (hc : ChP sv cw cs) {m : Nat} (hm : m ≤ 5) {a r : Int} (ha : 0 ≤ a ∧ a < (mv.length : Int)) (hr : 0 ≤ r ∧ r < (sv.length : Int)) (s : List Int) :
    nx mv sv cw cs m a s r ∈ srv sv r ∧
    (best sv r fun b => Wt cw cs (s ++ [r]) * co mv sv a b r + On mv sv cw cs m b (s ++ [r])) = Wt cw cs (s ++ [r]) * co mv sv a (nx mv sv cw cs m a s r) r + On mv sv cw cs m (nx mv sv cw cs m a s r) (s ++ [r]) := by
  have hB := OnB_bd (show m ≤ 6 by omega)
  have hb := best_bd (hg.row hr).2.1 (On_g hg hc (On_bd hg hc m) ha hr (s ++ [r]) (s ++ [r]))
  have hbest := rp_best hg hc hm ha hr (s ++ [r])
  rcases rp_mem (fun b => Wt cw cs (s ++ [r]) * co mv sv a b r + On mv sv cw cs m b (s ++ [r])) (srv sv r) (-1, 1073741824) with h | h
  · rw [h] at hbest
    dsimp only at hbest
    omega
  · exact ⟨h.1, by rw [← hbest, h.2]; rfl⟩

/-- what the replies cost along a sequence -/
def pth (mv sv : List (List Int)) (cw : List Int) (cs : List (List Int)) : List Int → Int → List Int → Int
  | [], _, _ => 0
  | r :: q, a, s => co mv sv a (nx mv sv cw cs q.length a s r) r + pth mv sv cw cs q (nx mv sv cw cs q.length a s r) (s ++ [r])

theorem sum_add {α : Type} (f g : α → Int) : ∀ l : List α, (l.map fun x => f x + g x).sum = (l.map f).sum + (l.map g).sum
  | [] => rfl
  | x :: l => by simp only [List.map_cons, List.sum_cons]; rw [sum_add f g l]; omega
theorem sum_swap {α β : Type} (F : α → β → Int) (ys : List β) : ∀ xs : List α, (xs.map fun x => (ys.map fun y => F x y).sum).sum = (ys.map fun y => (xs.map fun x => F x y).sum).sum
  | [] => by
    have : ∀ ys : List β, (ys.map fun _ => (0 : Int)).sum = 0 := fun ys => by
      induction ys with
      | nil => rfl
      | cons y l ih => simpa using ih
    simp [this]
  | x :: xs => by
    simp only [List.map_cons, List.sum_cons]
    rw [sum_swap F ys xs, sum_add]
theorem sum_cmul {α : Type} (c : Int) (f : α → Int) : ∀ l : List α, (l.map fun x => c * f x).sum = c * (l.map f).sum
  | [] => by simp
  | x :: l => by simp only [List.map_cons, List.sum_cons]; rw [sum_cmul c f l, Int.mul_add]
theorem sum_zero' {α : Type} {f : α → Int} : ∀ l : List α, (∀ x ∈ l, f x = 0) → (l.map f).sum = 0
  | [], _ => rfl
  | x :: l, h => by
    rw [List.map_cons, List.sum_cons, h x (by simp), sum_zero' l fun y hy => h y (List.mem_cons_of_mem _ hy)]; rfl

theorem On_pth (hg : GoodP mv sv) (hc : ChP sv cw cs) : ∀ (m : Nat) (a : Int) (s : List Int), s.length + m = (cs.getD 0 []).length → 0 ≤ a → a < (mv.length : Int) →
    On mv sv cw cs m a s = ((cw.zip cs).map fun p => if p.2.take s.length = s then p.1 * pth mv sv cw cs (p.2.drop s.length) a s else 0).sum := by
  have h6 := hc.len6
  intro m
  induction m with
  | zero =>
    intro a s hl h0 h1
    rw [sum_zero']
    · rfl
    · intro p hp
      have hq := (hc.2.2.2 p.2 (List.of_mem_zip hp).2).2.1
      rw [List.drop_eq_nil_of_le (by omega)]
      simp [pth]
  | succ m ih =>
    intro a s hl h0 h1
    have term : ∀ r ∈ idx sv.length, (if 0 < Wt cw cs (s ++ [r]) then best sv r fun b => Wt cw cs (s ++ [r]) * co mv sv a b r + On mv sv cw cs m b (s ++ [r]) else 0) =
        ((cw.zip cs).map fun p => if p.2.take (s.length + 1) = s ++ [r] then p.1 * (co mv sv a (nx mv sv cw cs m a s r) r + pth mv sv cw cs (p.2.drop (s.length + 1)) (nx mv sv cw cs m a s r) (s ++ [r])) else 0).sum := by
      intro r hr
      rw [idx_mem] at hr
      have hn := nx_ok hg hc (m := m) (by omega) ⟨h0, h1⟩ hr s
      have hb := (hg.srv hr hn.1).1
      have hlen : (s ++ [r]).length = s.length + 1 := by simp
      split
      · rw [hn.2, ih _ (s ++ [r]) (by omega) hb.1 hb.2, hlen, Int.mul_comm]
        unfold Wt
        rw [hlen, ← sum_cmul, ← sum_add]
        refine congrArg List.sum (List.map_congr_left fun p _ => ?_)
        split
        · rw [Int.mul_add, Int.mul_comm]
        · simp
      · rename_i hW
        rw [sum_zero']
        intro p hp
        refine if_neg fun e => hW ?_
        have hN : Nn 9 ((cw.zip cs).map fun p => if p.2.take (s ++ [r]).length = s ++ [r] then p.1 else 0) := by
          intro x hx
          obtain ⟨p, hp, rfl⟩ := List.mem_map.1 hx
          have := hc.2.2.1 p.1 (List.of_mem_zip hp).1
          split <;> omega
        have hmem : p.1 ∈ ((cw.zip cs).map fun p => if p.2.take (s ++ [r]).length = s ++ [r] then p.1 else 0) := List.mem_map.2 ⟨p, hp, by rw [hlen, if_pos e]⟩
        have hp1 := hc.2.2.1 p.1 (List.of_mem_zip hp).1
        have : ∀ (l : List Int), Nn 9 l → ∀ x ∈ l, x ≤ l.sum := by
          intro l
          induction l with
          | nil => intro _ x hx; simp at hx
          | cons y l ih =>
            intro hN x hx
            have hl : Nn 9 l := fun z hz => hN z (List.mem_cons_of_mem _ hz)
            have hy := hN y (by simp)
            have hs := hl.sum
            rw [List.sum_cons]
            rcases List.mem_cons.1 hx with rfl | hx
            · omega
            · have := ih hl x hx; omega
        have := this _ hN _ hmem
        unfold Wt; omega
    simp only [On]
    rw [List.map_congr_left term, sum_swap]
    refine congrArg List.sum (List.map_congr_left fun p hp => ?_)
    have hq := hc.2.2.2 p.2 (List.of_mem_zip hp).2
    have hq1 := hq.2.1
    have hlt : (s.length : Int) < p.2.length := by omega
    have htk := take_at (l := p.2) (i := (s.length : Int)) (d := 0) (by omega) hlt
    have hdr := drop_at (l := p.2) (i := (s.length : Int)) (d := 0) (by omega) hlt
    rw [show ((s.length : Int) + 1).toNat = s.length + 1 by omega, Int.toNat_natCast] at htk hdr
    have hr0 := hq.2.2 _ (getD_mem (l := p.2) (i := (s.length : Int)) (d := 0) (by omega) hlt)
    rw [Int.toNat_natCast] at hr0
    rw [htk]
    by_cases he : p.2.take s.length = s
    · rw [if_pos he, he, hdr, sum_one (r := p.2.getD s.length 0) hr0.1 hr0.2 fun x hx => ?_]
      · rw [if_pos rfl]
        have : (p.2.drop (s.length + 1)).length = m := by rw [List.length_drop]; omega
        simp only [pth, this]
      · refine if_neg fun e => hx ?_
        have := List.append_cancel_left e
        simpa using this.symm
    · rw [if_neg he, sum_zero]
      intro x _
      refine if_neg fun e => he ?_
      exact (List.append_inj' e rfl).1
end
end Go.Proofs.YtobfbgmglopdhaaGreat
namespace Go.Proofs.YtobfbgmglopdhaaGreat
open Ab Pl

section
variable {k : Nat}

theorem divisor_dvd : ∀ (m f : Nat) (a b : Int), b ≤ m → m + 1 ≤ f → 0 ≤ a → 0 ≤ b → (0 < a ∨ 0 < b) → OK (impl_divisor.bs k f a b) fun r => 0 < r ∧ r ∣ a ∧ r ∣ b := by
  intro m
  induction m with
  | zero =>
    intro f a b hb hf h0 h1 h2
    obtain ⟨f, rfl⟩ : ∃ g, f = g + 1 := ⟨f - 1, by omega⟩
    simp only [impl_divisor.bs, impl_divisor.B1]
    refine OK.bif (fun h => by omega) fun _ => OK.ret ⟨by omega, Int.dvd_refl _, ?_⟩
    rw [show b = 0 by omega]; exact Int.dvd_zero _
  | succ m ih =>
    intro f a b hb hf h0 h1 h2
    obtain ⟨f, rfl⟩ : ∃ g, f = g + 1 := ⟨f - 1, by omega⟩
    simp only [impl_divisor.bs, impl_divisor.B1]
    refine OK.bif (fun h => OK.req (by omega) ?_) fun h => OK.ret ⟨by omega, Int.dvd_refl _, by rw [show b = 0 by omega]; exact Int.dvd_zero _⟩
    have l1 := Int.tmod_nonneg b h0
    have l2 := Int.tmod_lt_of_pos a h
    refine (ih f b _ (by omega) (by omega) (by omega) l1 (.inl h)).mono fun r hr => ⟨hr.1, ?_, hr.2.1⟩
    have e := Int.tmod_add_mul_tdiv a b
    rw [← e]
    exact Int.dvd_add hr.2.2 (Int.dvd_trans hr.2.1 (Int.dvd_mul_right _ _))

theorem make_val (hk : 2000000 ≤ k) {a b : Int} (ha : 0 ≤ a ∧ a ≤ 1000000000000000) (hb : 1 ≤ b ∧ b ≤ 1000000) :
    OK (impl_makeFrac.f k a b) fun x => x.2.2 = true → x.1 * b = a * x.2.1 := by
  simp only [impl_makeFrac.f, impl_makeFrac.B, size_eq, Option.bind_some]
  rw [w64_id (n := 0 - a) (by omega) (by omega), show max a (0 - a) = a by omega]
  refine OK.bind (divisor_dvd 1000000 k _ b (by omega) (by omega) (by omega) (by omega) (by omega)) fun r hr => ?_
  obtain ⟨hr0, ⟨u, rfl⟩, v, rfl⟩ := hr
  refine OK.req (by omega) (OK.req (by omega) (OK.bind (isFrac_ok hk _ _) fun t _ => ?_))
  rw [Int.mul_tdiv_cancel_left _ (by omega : r ≠ 0), Int.mul_tdiv_cancel_left _ (by omega : r ≠ 0)]
  have hu : 0 ≤ u := Int.nonneg_of_mul_nonneg_right ha.1 hr0
  have hv : 0 ≤ v := Int.nonneg_of_mul_nonneg_right (by omega : 0 ≤ r * v) hr0
  have hu2 : 1 * u ≤ r * u := Int.mul_le_mul_of_nonneg_right (by omega) hu
  have hv2 : 1 * v ≤ r * v := Int.mul_le_mul_of_nonneg_right (by omega) hv
  rw [w64_id (n := u) (by omega) (by omega), w64_id (n := v) (by omega) (by omega)]
  refine OK.bifn (fun _ => OK.ret fun h => absurd h (by simp)) fun _ => OK.ret fun _ => ?_
  dsimp only
  rw [← Int.mul_assoc, Int.mul_comm u r]

/-! the drawn chances -/
variable {code : List Int} {n : Int} {mv sv y1 : List (List Int)} {y0 y2 : List Int} {A : Int}
theorem with_eq {l : List Int} {i x : Int} (hl : l.length ≤ 1000000) (h0 : 0 ≤ i) (h1 : i < (l.length : Int)) : spec_l4With.f l i x = some (l.set i.toNat x) := by
  simp only [spec_l4With.f, spec_l4With.B, own_eq hl, Option.bind_some]
  rw [if_pos ⟨h0, h1⟩]

def Al (n : Int) (cs : List (List Int)) : Prop := ∀ q ∈ cs, (q.length : Int) = n
theorem Al.snoc {cs : List (List Int)} {q : List Int} (h : Al n cs) (hq : (q.length : Int) = n) : Al n (cs ++ [q]) := fun x hx => (List.mem_append.1 hx).elim (h x) fun hx => by rw [List.mem_singleton.1 hx]; exact hq

def DrawnP (code : List Int) (A : Int) (r : List Int × Int × Int × List Int × List (List Int)) : Prop :=
  r.1 = code ∧ 0 ≤ r.2.1 ∧ r.2.1 ≤ A ∧ r.2.2.2.1.length ≤ 2000 ∧ r.2.2.2.2.length ≤ 100 ∧ ∀ q ∈ r.2.2.2.2, q.length ≤ 100

theorem chances_7 (hk : 2000000 ≤ k) (hb : By code) (hn : 0 ≤ n ∧ n ≤ 5) (hA : A ≤ 1000000) {x7 : Int} {cs : List (List Int)} (hcs : Al n cs ∧ cs.length ≤ 50) {P : List Int × Int × Int × List Int × List (List Int) → Prop} {m : Nat}
    (hc : ∀ f a s cs', m ≤ f → 0 ≤ a → a ≤ A → cs'.length = cs.length + 1 → Al n cs' → OK ((spec_l1Cur_chances.bs k f).1 n (w64 (x7 - 1)) code a s mv sv y0 y1 y2 cs') P) :
    ∀ (d f : Nat) (a s : Int) (q : List Int), m + d + 1 ≤ f → (q.length : Int) + d = n → 0 ≤ a → a + 2 * d + 4 ≤ A →
      OK ((spec_l1Cur_chances.bs k f).2 n x7 code a s mv sv y0 y1 y2 cs q) P := by
  intro d
  induction d with
  | zero =>
    intro f a s q hf hq h0 h1
    obtain ⟨f, rfl⟩ : ∃ g, f = g + 1 := ⟨f - 1, by omega⟩
    simp only [spec_l1Cur_chances.bs, spec_l1Cur_chances.B7]
    refine OK.bif (fun h => by omega) fun _ => OK.bif (fun hpos => OK.bif (fun hn0 => ?_) fun _ => ?_) fun _ => ?_
    · refine OK.bind (one_ok hb h0 (by omega)) ?_
      rintro ⟨o, c, a2, s2⟩ ⟨rfl, r3, r4⟩
      dsimp only at r3 r4 ⊢
      refine OK.bifb (fun _ => ?_) fun _ => OK.req (by rw [capB_eq]; omega) (hc f _ _ _ (by omega) (by omega) (by omega) (by simp) (hcs.1.snoc (by omega)))
      rw [w64_id (n := (cs.length : Int) - 1) (by omega) (by omega), w64_id (n := n - 1) (by omega) (by omega)]
      have hlast := hcs.1 _ (getD_mem (l := cs) (i := (cs.length : Int) - 1) (d := []) (by omega) (by omega))
      refine OK.req (by omega) (OK.req (by omega) ?_)
      rw [with_eq (by omega) (by omega) (by omega)]
      exact OK.req (by rw [capB_eq]; omega) (hc f _ _ _ (by omega) (by omega) (by omega) (by simp) (hcs.1.snoc (by rw [List.length_set]; omega)))
    · exact OK.req (by rw [capB_eq]; omega) (hc f _ _ _ (by omega) (by omega) (by omega) (by simp) (hcs.1.snoc (by omega)))
    · exact OK.req (by rw [capB_eq]; omega) (hc f _ _ _ (by omega) (by omega) (by omega) (by simp) (hcs.1.snoc (by omega)))
  | succ d ih =>
    intro f a s q hf hq h0 h1
    obtain ⟨f, rfl⟩ : ∃ g, f = g + 1 := ⟨f - 1, by omega⟩
    simp only [spec_l1Cur_chances.bs, spec_l1Cur_chances.B7]
    refine OK.bif (fun h => ?_) fun _ => by omega
    simp only [most_eq, Option.bind_some]
    refine OK.bind (pick_ok hb h0 (by omega)) ?_
    rintro ⟨v, c, a2, s2⟩ ⟨_, _, _, rfl, q3, q4⟩
    dsimp only at q3 q4 ⊢
    exact OK.req (by rw [capB_eq]; omega) (ih f _ _ _ (by omega) (by simp; omega) (by omega) (by omega))

theorem set_all {cs : List (List Int)} {q : List Int} {i : Nat} (h : ∀ q ∈ cs, q.length ≤ 100) (hq : q.length ≤ 100) : ∀ q' ∈ cs.set i q, q'.length ≤ 100 := fun x hx => by
  rcases List.mem_or_eq_of_mem_set hx with hx | rfl
  · exact h x hx
  · exact hq

theorem chances_4 (hk : 2000000 ≤ k) (hb : By code) (hn : 0 ≤ n ∧ n ≤ 5) :
    ∀ (d f : Nat) (a s : Int) (cs : List (List Int)), 10 * (d + 1) ≤ f → cs.length + d ≤ 13 → Al n cs → 0 ≤ a → a + 16 * d ≤ 50000 →
      OK ((spec_l1Cur_chances.bs k f).1 n d code a s mv sv y0 y1 y2 cs) (DrawnP code 100000) := by
  intro d
  induction d with
  | zero =>
    intro f a s cs hf hcl hcs h0 h1
    obtain ⟨f, rfl⟩ : ∃ g, f = g + 1 := ⟨f - 1, by omega⟩
    simp only [spec_l1Cur_chances.bs, spec_l1Cur_chances.B4]
    refine OK.bif (fun h => by omega) fun _ => OK.bind (weights11_ok hb hk (by omega) h0 (by omega)) ?_
    rintro ⟨c, a2, s2, ws⟩ ⟨rfl, q3, q4, q5⟩
    dsimp only at q3 q4 q5 ⊢
    have hall : ∀ q ∈ cs, q.length ≤ 100 := fun q hq => by have := hcs q hq; omega
    refine OK.bif (fun hpos => OK.bind (pick_ok hb q3 (by omega)) ?_) fun _ => OK.ret ⟨rfl, q3, by dsimp only; omega, q5, by dsimp only; omega, hall⟩
    rintro ⟨v, c, a3, s3⟩ ⟨_, _, _, rfl, r3, r4⟩
    dsimp only at r3 r4 ⊢
    have h0l := hcs _ (getD_mem (l := cs) (i := 0) (d := []) (by omega) hpos)
    rw [Int.toNat_zero] at h0l
    refine OK.bif (fun _ => OK.req (by omega) ?_) fun _ => OK.bif (fun _ => ?_) fun _ => OK.bif (fun _ => OK.req (by omega) ?_) fun _ => OK.ret ⟨rfl, by dsimp only; omega, by dsimp only; omega, q5, by dsimp only; omega, hall⟩
    · rw [own_eq (by omega)]
      refine OK.req (by rw [capB_eq]; omega) (OK.req (by omega) (OK.ret ⟨rfl, by dsimp only; omega, by dsimp only; omega, q5, by simp; omega, set_all hall (by rw [List.length_append, List.length_singleton]; omega)⟩))
    · refine OK.bind (pick_ok hb (by omega) (by omega)) ?_
      rintro ⟨v, c, a4, s4⟩ ⟨u1, u2, _, rfl, u3, u4⟩
      dsimp only at u1 u2 u3 u4 ⊢
      have u2 := u2 (by omega)
      rw [w64_id (n := 5 + v) (by omega) (by omega)]
      refine OK.req (by omega) (OK.req (by omega) (OK.ret ⟨rfl, by dsimp only; omega, by dsimp only; omega, q5, by simp; omega, set_all hall (by simp; omega)⟩))
    · rw [own_eq (by omega)]
      simp only [Option.bind_some]
      refine OK.bind (among_ok hb (by simp) (by omega) (by omega)) ?_
      rintro ⟨v, c, a4, s4⟩ ⟨_, rfl, u3, u4⟩
      dsimp only at u3 u4 ⊢
      refine OK.req (by rw [capB_eq]; omega) (OK.req (by omega) (OK.ret ⟨rfl, by dsimp only; omega, by dsimp only; omega, q5, by simp; omega, set_all hall (by rw [List.length_append, List.length_singleton]; omega)⟩))
  | succ d ih =>
    intro f a s cs hf hcl hcs h0 h1
    obtain ⟨f, rfl⟩ : ∃ g, f = g + 1 := ⟨f - 1, by omega⟩
    simp only [spec_l1Cur_chances.bs, spec_l1Cur_chances.B4]
    refine OK.bif (fun _ => ?_) fun h => by omega
    refine chances_7 (A := a + 16) hk hb hn (by omega) ⟨hcs, by omega⟩ (m := 10 * (d + 1)) (fun f a' s' cs' hf' h0' h1' hl hal => ?_) n.toNat f a s [] (by omega) (by simp; omega) h0 (by omega)
    rw [w64_id (n := ((d + 1 : Nat) : Int) - 1) (by omega) (by omega), show ((d + 1 : Nat) : Int) - 1 = d by omega]
    exact ih f a' s' cs' hf' (by omega) hal h0' (by omega)

theorem chances_ok (hk : 2000000 ≤ k) (hb : By code) {a s : Int} (h0 : 0 ≤ a) (h1 : a ≤ 40000) : OK (spec_l1Cur_chances.f k mv sv code a s) (DrawnP code 100000) := by
  simp only [spec_l1Cur_chances.f, spec_l1Cur_chances.B]
  refine OK.bind (among_ok hb (by simp) h0 (by omega)) ?_
  rintro ⟨n, c, a2, s2⟩ ⟨p1, rfl, p3, p4⟩
  dsimp only at p1 p3 p4 ⊢
  refine OK.bind (pick_ok hb (by omega) (by omega)) ?_
  rintro ⟨v, c, a3, s3⟩ ⟨v1, v2, _, rfl, v3, v4⟩
  dsimp only at v1 v2 v3 v4 ⊢
  have v2 := v2 (by omega)
  have hd : 0 ≤ Int.tdiv v 6 ∧ Int.tdiv v 6 ≤ 2 := by
    rw [Int.tdiv_eq_ediv_of_nonneg v1]; omega
  rw [w64_id (n := Int.tdiv v 6) (by omega) (by omega), w64_id (n := 7 + Int.tdiv v 6) (by omega) (by omega)]
  refine OK.req (by omega) (OK.req (by omega) (OK.bind (among_ok hb (by simp; omega) (by omega) (by omega)) ?_))
  rintro ⟨x, c, a4, s4⟩ ⟨w1, rfl, w3, w4⟩
  dsimp only at w1 w3 w4 ⊢
  have w1 := List.mem_of_mem_drop (List.mem_of_mem_take w1)
  have hn : 0 ≤ n ∧ n ≤ 5 := by simp at p1; omega
  have hx : 0 ≤ x ∧ x ≤ 13 := by simp at w1; omega
  obtain ⟨x, rfl⟩ := Int.eq_ofNat_of_zero_le hx.1
  exact chances_4 hk hb hn x k _ _ [] (by omega) (by simp; omega) (fun q hq => by simp at hq) (by omega) (by omega)

end
end Go.Proofs.YtobfbgmglopdhaaGreat
namespace Go.Proofs.YtobfbgmglopdhaaGreat
open Ab Pl

section
variable {mv sv cs : List (List Int)} {cw : List Int} {k : Nat}

theorem Nn.mem_le {B : Int} : ∀ {l : List Int}, Nn B l → ∀ x ∈ l, x ≤ l.sum := by
  intro l
  induction l with
  | nil => intro _ x hx; simp at hx
  | cons y l ih =>
    intro hN x hx
    have hl : Nn B l := fun z hz => hN z (List.mem_cons_of_mem _ hz)
    have hy := hN y (by simp)
    have hs := hl.sum
    rw [List.sum_cons]
    rcases List.mem_cons.1 hx with rfl | hx
    · omega
    · have := ih hl x hx; omega

theorem Wt_pos (hc : ChP sv cw cs) {p : Int × List Int} (hp : p ∈ cw.zip cs) {seen : List Int} (he : p.2.take seen.length = seen) : Wt cw cs seen ≠ 0 := by
  have hN : Nn 9 ((cw.zip cs).map fun p => if p.2.take seen.length = seen then p.1 else 0) := by
    intro x hx
    obtain ⟨p, hp, rfl⟩ := List.mem_map.1 hx
    have := hc.2.2.1 p.1 (List.of_mem_zip hp).1
    split <;> omega
  have hmem : p.1 ∈ ((cw.zip cs).map fun p => if p.2.take seen.length = seen then p.1 else 0) := List.mem_map.2 ⟨p, hp, by rw [if_pos he]⟩
  have hp1 := hc.2.2.1 p.1 (List.of_mem_zip hp).1
  have := hN.mem_le _ hmem
  unfold Wt; omega

theorem pth_bd (hg : GoodP mv sv) (hc : ChP sv cw cs) : ∀ (q : List Int) (a : Int) (s : List Int), q.length ≤ 6 → (∀ x ∈ q, 0 ≤ x ∧ x < (sv.length : Int)) → 0 ≤ a ∧ a < (mv.length : Int) →
    0 ≤ pth mv sv cw cs q a s ∧ pth mv sv cw cs q a s ≤ 119 * q.length
  | [], a, s, _, _, _ => by simp [pth]
  | r :: q, a, s, hl, hq, ha => by
    rw [List.length_cons] at hl
    have hr := hq r (by simp)
    have hn := (nx_ok hg hc (m := q.length) (by omega) ha hr s).1
    have hb := (hg.srv hr hn).1
    have hco := hg.co ha hr hn
    have := pth_bd hg hc q _ (s ++ [r]) (by omega) (fun x hx => hq x (List.mem_cons_of_mem _ hx)) hb
    simp only [pth, List.length_cons]
    omega

theorem zip_get {i : Nat} (h1 : i < cw.length) (h2 : i < cs.length) : (cw.zip cs).getD i (0, []) = (cw.getD i 0, cs.getD i []) := by
  have e3 : i < (cw.zip cs).length := by rw [List.length_zip]; omega
  simp only [List.getD, List.getElem?_eq_getElem h1, List.getElem?_eq_getElem h2, List.getElem?_eq_getElem e3, Option.getD_some, List.getElem_zip]

variable {st x y : Int} {P : Bool → Prop}
end

end Go.Proofs.YtobfbgmglopdhaaGreat
namespace Go.Proofs.YtobfbgmglopdhaaGreat
open Ab Pl

section
variable {k : Nat}

theorem divisor_gcd : ∀ (m f : Nat) (a b : Int), b ≤ m → m + 1 ≤ f → 0 ≤ a → 0 ≤ b → (0 < a ∨ 0 < b) → OK (impl_divisor.bs k f a b) fun r => 0 < r ∧ r ∣ a ∧ r ∣ b ∧ ∀ c, c ∣ a → c ∣ b → c ∣ r := by
  intro m
  induction m with
  | zero =>
    intro f a b hb hf h0 h1 h2
    obtain ⟨f, rfl⟩ : ∃ g, f = g + 1 := ⟨f - 1, by omega⟩
    simp only [impl_divisor.bs, impl_divisor.B1]
    refine OK.bif (fun h => by omega) fun _ => OK.ret ⟨by omega, Int.dvd_refl _, ?_, fun c hc _ => hc⟩
    rw [show b = 0 by omega]; exact Int.dvd_zero _
  | succ m ih =>
    intro f a b hb hf h0 h1 h2
    obtain ⟨f, rfl⟩ : ∃ g, f = g + 1 := ⟨f - 1, by omega⟩
    simp only [impl_divisor.bs, impl_divisor.B1]
    refine OK.bif (fun h => OK.req (by omega) ?_) fun h => OK.ret ⟨by omega, Int.dvd_refl _, by rw [show b = 0 by omega]; exact Int.dvd_zero _, fun c hc _ => hc⟩
    have l1 := Int.tmod_nonneg b h0
    have l2 := Int.tmod_lt_of_pos a h
    have e := Int.tmod_add_mul_tdiv a b
    refine (ih f b _ (by omega) (by omega) (by omega) l1 (.inl h)).mono fun r hr => ⟨hr.1, ?_, hr.2.1, fun c hca hcb => hr.2.2.2 c hcb ?_⟩
    · rw [← e]
      exact Int.dvd_add hr.2.2.1 (Int.dvd_trans hr.2.1 (Int.dvd_mul_right _ _))
    · have e2 : Int.tmod a b = a - b * Int.tdiv a b := by omega
      rw [e2]
      exact Int.dvd_sub hca (Int.dvd_trans hcb (Int.dvd_mul_right _ _))

theorem isFrac_yes (hk : 2000000 ≤ k) {u v : Int} (hu : 0 ≤ u ∧ u ≤ 100000000) (hv : 1 ≤ v ∧ v ≤ 100000) (hg : ∀ c, 0 < c → c ∣ u → c ∣ v → c = 1) : impl_IsFrac.f k u v = some true := by
  refine OK.some ?_
  simp only [impl_IsFrac.f, impl_IsFrac.B, within_eq, size_eq, Option.bind_some]
  refine OK.bif (fun _ => OK.bif (fun _ => ?_) fun h => by omega) fun h => by omega
  rw [w64_id (n := 0 - u) (by omega) (by omega), show max u (0 - u) = u by omega]
  refine OK.bind (divisor_gcd 1000000 k u v (by omega) (by omega) (by omega) (by omega) (by omega)) fun r hr => OK.ret ?_
  exact decide_eq_true (hg r hr.1 hr.2.1 hr.2.2.1)

theorem make_full (hk : 2000000 ≤ k) {a b : Int} (ha : 0 ≤ a ∧ a ≤ 100000000) (hb : 1 ≤ b ∧ b ≤ 100000) :
    OK (impl_makeFrac.f k a b) fun x => x.2.2 = true ∧ x.1 * b = a * x.2.1 ∧ (0 ≤ x.1 ∧ x.1 ≤ a) ∧ (1 ≤ x.2.1 ∧ x.2.1 ≤ b) := by
  simp only [impl_makeFrac.f, impl_makeFrac.B, size_eq, Option.bind_some]
  rw [w64_id (n := 0 - a) (by omega) (by omega), show max a (0 - a) = a by omega]
  refine OK.bind (divisor_gcd 1000000 k _ b (by omega) (by omega) (by omega) (by omega) (by omega)) fun r hr => ?_
  obtain ⟨hr0, ⟨u, rfl⟩, ⟨v, rfl⟩, hgr⟩ := hr
  refine OK.req (by omega) (OK.req (by omega) ?_)
  rw [Int.mul_tdiv_cancel_left _ (by omega : r ≠ 0), Int.mul_tdiv_cancel_left _ (by omega : r ≠ 0)]
  have hu : 0 ≤ u := Int.nonneg_of_mul_nonneg_right ha.1 hr0
  have hv : 0 ≤ v := Int.nonneg_of_mul_nonneg_right (by omega : 0 ≤ r * v) hr0
  have hu2 : 1 * u ≤ r * u := Int.mul_le_mul_of_nonneg_right (by omega) hu
  have hv2 : 1 * v ≤ r * v := Int.mul_le_mul_of_nonneg_right (by omega) hv
  have hv1 : 1 ≤ v := by
    rcases Int.lt_or_eq_of_le hv with h | h
    · omega
    · rw [← h] at hb; simp at hb
  rw [w64_id (n := u) (by omega) (by omega), w64_id (n := v) (by omega) (by omega)]
  rw [isFrac_yes hk (by omega) (by omega) fun c hc0 hcu hcv => ?_]
  · simp only [Option.bind_some, Bool.not_true, cond_false]
    refine OK.ret ⟨rfl, ?_, ⟨hu, by dsimp only; omega⟩, hv1, by dsimp only; omega⟩
    dsimp only
    rw [← Int.mul_assoc, Int.mul_comm u r]
  · have h1 := hgr (r * c) (Int.mul_dvd_mul_left r hcu) (Int.mul_dvd_mul_left r hcv)
    have h2 := Int.le_of_dvd hr0 h1
    have h3 : r * 1 ≤ r * c := Int.mul_le_mul_of_nonneg_left (by omega) (by omega)
    have h4 : c ≤ 1 := by
      refine Classical.byContradiction fun hn => ?_
      have h5 : r * 2 ≤ r * c := Int.mul_le_mul_of_nonneg_left (by omega) (by omega)
      omega
    omega
end

theorem sum_le {α : Type} {f g : α → Int} : ∀ l : List α, (∀ x ∈ l, f x ≤ g x) → (l.map f).sum ≤ (l.map g).sum
  | [], _ => by simp
  | x :: l, h => by
    have h1 := h x (by simp)
    have h2 := sum_le l fun y hy => h y (List.mem_cons_of_mem _ hy)
    simp only [List.map_cons, List.sum_cons]; omega

/-- an order of fractions out of their values -/
theorem frac_le {n d n' d' a b a' b' : Int} (h : n * b = a * d) (h' : n' * b' = a' * d') (hb : 1 ≤ b) (hb' : 1 ≤ b') (hd : 1 ≤ d) (hd' : 1 ≤ d') (hle : a * b' ≤ a' * b) : n * d' ≤ n' * d := by
  have hbb : 0 < b * b' := Int.mul_pos (by omega) (by omega)
  refine Int.le_of_mul_le_mul_right ?_ hbb
  have e1 : n * d' * (b * b') = a * b' * (d * d') := by
    rw [show n * d' * (b * b') = (n * b) * (d' * b') by simp only [Int.mul_assoc, Int.mul_comm, Int.mul_left_comm], h]
    simp only [Int.mul_assoc, Int.mul_comm, Int.mul_left_comm]
  have e2 : n' * d * (b * b') = a' * b * (d * d') := by
    rw [show n' * d * (b * b') = (n' * b') * (d * b) by simp only [Int.mul_assoc, Int.mul_comm, Int.mul_left_comm], h']
    simp only [Int.mul_assoc, Int.mul_comm, Int.mul_left_comm]
  rw [e1, e2]
  exact Int.mul_le_mul_of_nonneg_right hle (Int.mul_nonneg (by omega) (by omega))
end Go.Proofs.YtobfbgmglopdhaaGreat
namespace Go.Proofs.YtobfbgmglopdhaaGreat
open Ab Pl

section
variable {mv sv : List (List Int)} {k : Nat}

/-- a state for each request in which it can be served -/
def SvdP (mv sv : List (List Int)) (row : List Int) : Prop := (row.length : Int) = sv.length ∧ ∀ i : Nat, i < row.length → (0 ≤ row.getD i 0 ∧ row.getD i 0 < (mv.length : Int)) ∧ 0 ≤ ce sv i (row.getD i 0)
def AlgP (mv sv nx : List (List Int)) : Prop := (nx.length : Int) = mv.length ∧ ∀ row ∈ nx, SvdP mv sv row
def MixP (mv sv : List (List Int)) (us : List Int) (ns : List (List (List Int))) : Prop :=
  (1 ≤ (ns.length : Int) ∧ (ns.length : Int) ≤ 4) ∧ (us.length : Int) = ns.length ∧ (∀ x ∈ us, 1 ≤ x ∧ x ≤ 9) ∧ ∀ nx ∈ ns, AlgP mv sv nx
def Sz (ns : List (List (List Int))) : Prop := ns.length ≤ 1000 ∧ ∀ nx ∈ ns, nx.length ≤ 1000 ∧ ∀ row ∈ nx, row.length ≤ 1000

open Classical in
theorem served_all (hg : GoodP mv sv) {row : List Int} (hrow : (row.length : Int) = sv.length) {L : Nat → Int → Option Bool}
    (hL : ∀ f i, 0 ≤ i → i < (row.length : Int) → L (f + 1) i = bif decide (0 ≤ row.getD i.toNat 0 ∧ row.getD i.toNat 0 < (mv.length : Int)) then (bif decide (ce sv i (row.getD i.toNat 0) < 0) then some false else L f (i + 1)) else some false)
    (hE : ∀ f i, (row.length : Int) ≤ i → L (f + 1) i = some true) :
    ∀ (d f : Nat) (i : Nat), d + 1 ≤ f → i + d = row.length → L f i = some (decide (∀ j : Nat, i ≤ j → j < row.length → (0 ≤ row.getD j 0 ∧ row.getD j 0 < (mv.length : Int)) ∧ 0 ≤ ce sv j (row.getD j 0))) := by
  intro d
  induction d with
  | zero =>
    intro f i hf hi
    obtain ⟨f, rfl⟩ : ∃ g, f = g + 1 := ⟨f - 1, by omega⟩
    rw [hE f i (by omega), decide_eq_true]
    intro j h1 h2; omega
  | succ d ih =>
    intro f i hf hi
    obtain ⟨f, rfl⟩ : ∃ g, f = g + 1 := ⟨f - 1, by omega⟩
    rw [hL f i (by omega) (by omega), Int.toNat_natCast]
    by_cases a1 : 0 ≤ row.getD i 0 ∧ row.getD i 0 < (mv.length : Int)
    · by_cases a2 : ce sv i (row.getD i 0) < 0
      · have : ¬ ∀ j : Nat, i ≤ j → j < row.length → (0 ≤ row.getD j 0 ∧ row.getD j 0 < (mv.length : Int)) ∧ 0 ≤ ce sv j (row.getD j 0) := fun h => by
          have := (h i (Nat.le_refl _) (by omega)).2; omega
        rw [decide_eq_false this, decide_eq_true a1, decide_eq_true a2]; rfl
      · rw [decide_eq_true a1, decide_eq_false a2]
        show L f ((i : Int) + 1) = _
        rw [show (i : Int) + 1 = ((i + 1 : Nat) : Int) by omega, ih f (i + 1) (by omega) (by omega)]
        congr 1
        rw [decide_eq_decide]
        refine ⟨fun h j h1 h2 => ?_, fun h j h1 h2 => h j (by omega) h2⟩
        rcases Nat.lt_or_eq_of_le h1 with h3 | rfl
        · exact h j h3 h2
        · exact ⟨a1, by omega⟩
    · have : ¬ ∀ j : Nat, i ≤ j → j < row.length → (0 ≤ row.getD j 0 ∧ row.getD j 0 < (mv.length : Int)) ∧ 0 ≤ ce sv j (row.getD j 0) := fun h => a1 (h i (Nat.le_refl _) (by omega)).1
      rw [decide_eq_false this, decide_eq_false a1]; rfl

theorem row_i (hg : GoodP mv sv) {i : Int} (h0 : 0 ≤ i) (h1 : i < (sv.length : Int)) : ((sv.getD i.toNat []).length : Int) = mv.length := (hg.row ⟨h0, h1⟩).1

open Classical in
theorem areServed_eq (hk : 2000000 ≤ k) (hg : GoodP mv sv) {row : List Int} (hl : row.length ≤ 100000) : impl_Problem_areServed.f k mv sv row = some (decide (SvdP mv sv row)) := by
  have hml := hg.1
  simp only [impl_Problem_areServed.f, impl_Problem_areServed.B]
  by_cases a0 : (row.length : Int) = sv.length
  · rw [decide_eq_true a0]
    simp only [Bool.not_true, cond_false]
    have := served_all hg a0 (L := fun f i => impl_Problem_areServed.bs k f row row.length i mv sv) (fun f i h0 h1 => ?_) (fun f i h => ?_) row.length k 0 (by omega) (by omega)
    · rw [show ((0 : Nat) : Int) = 0 from rfl] at this
      rw [this]
      congr 1
      rw [decide_eq_decide]
      exact ⟨fun h => ⟨a0, fun i hi => h i (by omega) hi⟩, fun h j _ hj => h.2 j hj⟩
    · have hr := row_i hg h0 (by omega : i < (sv.length : Int))
      simp only [impl_Problem_areServed.bs, impl_Problem_areServed.B4, impl_Problem_isState.f, impl_Problem_isState.B, within_eq, Option.bind_some]
      rw [w64_id (n := i + 1) (by omega) (by omega), w64_id (n := (mv.length : Int) - 1) (by omega) (by omega)]
      rw [decide_eq_true h1, if_pos ⟨h0, h1⟩]
      simp only [cond_true]
      by_cases a1 : 0 ≤ row.getD i.toNat 0 ∧ row.getD i.toNat 0 < (mv.length : Int)
      · have a1' : 0 ≤ row.getD i.toNat 0 ∧ row.getD i.toNat 0 ≤ (mv.length : Int) - 1 := by omega
        rw [decide_eq_true a1, decide_eq_true a1', if_pos (by omega), if_pos (by omega)]
        rfl
      · have a1' : ¬ (0 ≤ row.getD i.toNat 0 ∧ row.getD i.toNat 0 ≤ (mv.length : Int) - 1) := by omega
        rw [decide_eq_false a1, decide_eq_false a1']; rfl
    · have : ¬ i < (row.length : Int) := by omega
      simp only [impl_Problem_areServed.bs, impl_Problem_areServed.B4, this, decide_false, cond_false]
  · have : ¬ SvdP mv sv row := fun h => a0 h.1
    rw [decide_eq_false a0, decide_eq_false this]; rfl

open Classical in
theorem isAlg_eq (hk : 2000000 ≤ k) (hg : GoodP mv sv) {nx : List (List Int)} (hl : nx.length ≤ 1000 ∧ ∀ row ∈ nx, row.length ≤ 1000) : impl_Problem_isAlgorithm.f k mv sv nx = some (decide (AlgP mv sv nx)) := by
  simp only [impl_Problem_isAlgorithm.f, impl_Problem_isAlgorithm.B]
  have hl1 := hl.1
  have e : slices_ContainsFunc_at_Problem_isAlgorithm_1.f k nx mv sv = some (nx.any fun row => !decide (SvdP mv sv row)) := by
    simp only [slices_ContainsFunc_at_Problem_isAlgorithm_1.f, slices_ContainsFunc_at_Problem_isAlgorithm_1.B, slices_IndexFunc_at_Problem_isAlgorithm_1.f, slices_IndexFunc_at_Problem_isAlgorithm_1.B]
    refine contains_of (L := fun f i => slices_IndexFunc_at_Problem_isAlgorithm_1.bs k f nx mv sv (nx.length : Int) i) (d := []) hk (by omega) (fun f i h0 h1 => ?_) fun f i h => ?_
    · have hr := hl.2 _ (getD_mem (d := []) h0 h1)
      simp only [slices_IndexFunc_at_Problem_isAlgorithm_1.bs, slices_IndexFunc_at_Problem_isAlgorithm_1.B2, h0, h1, decide_true, cond_true, and_self, if_true, impl_Problem_isAlgorithm_1.f, impl_Problem_isAlgorithm_1.B]
      rw [areServed_eq hk hg (by omega), w64_id (n := i + 1) (by omega) (by omega)]
      rfl
    · have : ¬ i < (nx.length : Int) := by omega
      simp only [slices_IndexFunc_at_Problem_isAlgorithm_1.bs, slices_IndexFunc_at_Problem_isAlgorithm_1.B2, this, decide_false, cond_false]
  rw [e]
  by_cases a0 : (nx.length : Int) = mv.length
  · rw [decide_eq_true a0]
    simp only [cond_true, Option.bind_some]
    congr 1
    rw [Bool.eq_iff_iff]
    simp only [Bool.not_eq_true', decide_eq_true_iff]
    rw [List.any_eq_false]
    exact ⟨fun h => ⟨a0, fun q hq => by have := h q hq; simpa using this⟩, fun h q hq => by have := h.2 q hq; simpa using this⟩
  · have : ¬ AlgP mv sv nx := fun h => a0 h.1
    rw [decide_eq_false a0, decide_eq_false this]; rfl

/-! the same of the spec -/
open Classical in
theorem algS_9 (hg : GoodP mv sv) {nx : List (List Int)} {a : Nat} (ha : a < nx.length) (hl : nx.length ≤ 1000) (hrow : ((nx.getD a []).length : Int) = sv.length) {R : Option Bool} {z : Nat}
    (hc : ∀ f, z ≤ f → (spec_l8Alg.bs k f).1 nx (w64 ((a : Int) + 1)) mv sv = R) :
    ∀ (d f : Nat) (i : Nat), z + d + 1 ≤ f → i + d = (nx.getD a []).length →
      (spec_l8Alg.bs k f).2 nx a i mv sv = bif decide (∀ j : Nat, i ≤ j → j < (nx.getD a []).length → (0 ≤ (nx.getD a []).getD j 0 ∧ (nx.getD a []).getD j 0 < (mv.length : Int)) ∧ 0 ≤ ce sv j ((nx.getD a []).getD j 0)) then R else some false := by
  have hml := hg.1
  have hsl := hg.2.2.1
  have ha2 : 0 ≤ (a : Int) ∧ (a : Int) < nx.length := by omega
  intro d
  induction d with
  | zero =>
    intro f i hf hi
    obtain ⟨f, rfl⟩ : ∃ g, f = g + 1 := ⟨f - 1, by omega⟩
    rw [decide_eq_true (fun j h1 h2 => by omega)]
    simp only [spec_l8Alg.bs, spec_l8Alg.B9]
    rw [Int.toNat_natCast, if_pos ha2, decide_eq_false (by omega)]
    exact hc f (by omega)
  | succ d ih =>
    intro f i hf hi
    obtain ⟨f, rfl⟩ : ∃ g, f = g + 1 := ⟨f - 1, by omega⟩
    simp only [spec_l8Alg.bs, spec_l8Alg.B9, in_eq, Option.bind_some]
    rw [Int.toNat_natCast, if_pos ha2, Int.toNat_natCast]
    generalize nx.getD a [] = row at *
    have hr := row_i hg (i := (i : Int)) (by omega) (by omega)
    rw [Int.toNat_natCast] at hr
    rw [decide_eq_true (by omega : (i : Int) < row.length), if_pos ha2, if_pos (by omega), w64_id (n := (i : Int) + 1) (by omega) (by omega), w64_id (n := (mv.length : Int) - 1) (by omega) (by omega), show (i : Int) + 1 = ((i + 1 : Nat) : Int) by omega]
    simp only [cond_true]
    have ec : (sv.getD i []).getD (row.getD i 0).toNat 0 = ce sv i (row.getD i 0) := rfl
    by_cases a1 : 0 ≤ row.getD i 0 ∧ row.getD i 0 < (mv.length : Int)
    · rw [decide_eq_true (by omega : 0 ≤ row.getD i 0 ∧ row.getD i 0 ≤ (mv.length : Int) - 1), if_pos (by omega), if_pos ha2, if_pos (by omega), if_pos (by omega), ec]
      simp only [Bool.not_true, cond_false]
      by_cases a2 : ce sv i (row.getD i 0) < 0
      · have : ¬ ∀ j : Nat, i ≤ j → j < row.length → (0 ≤ row.getD j 0 ∧ row.getD j 0 < (mv.length : Int)) ∧ 0 ≤ ce sv j (row.getD j 0) := fun h => by
          have := (h i (Nat.le_refl _) (by omega)).2; omega
        rw [decide_eq_false this, decide_eq_true a2]; rfl
      · rw [decide_eq_false a2, ih f (i + 1) (by omega) (by omega)]
        show (bif _ then R else some false) = _
        congr 1
        rw [decide_eq_decide]
        refine ⟨fun h j h1 h2 => ?_, fun h j h1 h2 => h j (by omega) h2⟩
        rcases Nat.lt_or_eq_of_le h1 with h3 | rfl
        · exact h j h3 h2
        · exact ⟨a1, by omega⟩
    · have : ¬ ∀ j : Nat, i ≤ j → j < row.length → (0 ≤ row.getD j 0 ∧ row.getD j 0 < (mv.length : Int)) ∧ 0 ≤ ce sv j (row.getD j 0) := fun h => a1 (h i (Nat.le_refl _) (by omega)).1
      rw [decide_eq_false this, decide_eq_false (by omega : ¬ (0 ≤ row.getD i 0 ∧ row.getD i 0 ≤ (mv.length : Int) - 1))]; rfl

open Classical in
theorem algS_eq (hk : 2000000 ≤ k) (hg : GoodP mv sv) {nx : List (List Int)} (hl : nx.length ≤ 1000 ∧ ∀ row ∈ nx, row.length ≤ 1000) : spec_l8Alg.f k mv sv nx = some (decide (AlgP mv sv nx)) := by
  have hl1 := hl.1
  simp only [spec_l8Alg.f, spec_l8Alg.B]
  by_cases a0 : (nx.length : Int) = mv.length
  · rw [decide_eq_true a0]
    simp only [Bool.not_true, cond_false]
    have main : ∀ (d f : Nat) (a : Nat), 1010 * (d + 1) ≤ f → a + d = nx.length → (spec_l8Alg.bs k f).1 nx a mv sv = some (decide (∀ row ∈ nx.drop a, SvdP mv sv row)) := by
      intro d
      induction d with
      | zero =>
        intro f a hf ha
        obtain ⟨f, rfl⟩ : ∃ g, f = g + 1 := ⟨f - 1, by omega⟩
        simp only [spec_l8Alg.bs, spec_l8Alg.B4]
        rw [decide_eq_false (by omega), List.drop_eq_nil_of_le (by omega)]
        simp
      | succ d ih =>
        intro f a hf ha
        obtain ⟨f, rfl⟩ : ∃ g, f = g + 1 := ⟨f - 1, by omega⟩
        simp only [spec_l8Alg.bs, spec_l8Alg.B4]
        have hdr := drop_at (l := nx) (i := (a : Int)) (d := []) (by omega) (by omega)
        rw [show ((a : Int) + 1).toNat = a + 1 by omega, Int.toNat_natCast] at hdr
        have hrl := hl.2 _ (getD_mem (l := nx) (i := (a : Int)) (d := []) (by omega) (by omega))
        rw [Int.toNat_natCast] at hrl
        rw [decide_eq_true (by omega : (a : Int) < nx.length), Int.toNat_natCast, if_pos (by omega), hdr]
        simp only [cond_true]
        by_cases a1 : ((nx.getD a []).length : Int) = sv.length
        · rw [decide_eq_true a1]
          simp only [Bool.not_true, cond_false]
          have h9 := algS_9 (k := k) hg (nx := nx) (a := a) (by omega) hl1 a1 (z := 1010 * (d + 1)) (R := some (decide (∀ row ∈ nx.drop (a + 1), SvdP mv sv row))) (fun f hf => by
            rw [w64_id (n := (a : Int) + 1) (by omega) (by omega), show (a : Int) + 1 = ((a + 1 : Nat) : Int) by omega]
            exact (ih f (a + 1) hf (by omega)).trans (by congr)) (nx.getD a []).length f 0 (by omega) (by omega)
          rw [show ((0 : Nat) : Int) = 0 from rfl] at h9
          rw [h9]
          by_cases a2 : SvdP mv sv (nx.getD a [])
          · rw [decide_eq_true (fun j _ hj => a2.2 j hj)]
            show some _ = _
            congr 1
            rw [decide_eq_decide]
            exact ⟨fun h row hr => (List.mem_cons.1 hr).elim (fun e => e ▸ a2) (h row), fun h row hr => h row (List.mem_cons_of_mem _ hr)⟩
          · have h1 : ¬ ∀ j : Nat, 0 ≤ j → j < (nx.getD a []).length → (0 ≤ (nx.getD a []).getD j 0 ∧ (nx.getD a []).getD j 0 < (mv.length : Int)) ∧ 0 ≤ ce sv j ((nx.getD a []).getD j 0) := fun h => a2 ⟨a1, fun i hi => h i (by omega) hi⟩
            have h2 : ¬ ∀ row ∈ nx.getD a [] :: nx.drop (a + 1), SvdP mv sv row := fun h => a2 (h _ (by simp))
            rw [decide_eq_false h1, decide_eq_false h2]; rfl
        · have h2 : ¬ ∀ row ∈ nx.getD a [] :: nx.drop (a + 1), SvdP mv sv row := fun h => a1 (h _ (by simp)).1
          rw [decide_eq_false a1, decide_eq_false h2]; rfl
    have hml := hg.1
    have := main nx.length k 0 (by omega) (by omega)
    rw [show ((0 : Nat) : Int) = 0 from rfl] at this
    rw [this]
    congr 1
    rw [decide_eq_decide]
    exact ⟨fun h => ⟨a0, h⟩, fun h => h.2⟩
  · have : ¬ AlgP mv sv nx := fun h => a0 h.1
    rw [decide_eq_false a0, decide_eq_false this]; rfl

end
end Go.Proofs.YtobfbgmglopdhaaGreat
namespace Go.Proofs.YtobfbgmglopdhaaGreat
open Ab Pl

section
variable {k : Nat} {code : List Int} {mv sv : List (List Int)}

def AlgDr (code : List Int) (A : Int) (r : List (List Int) × List Int × Int × Int) : Prop :=
  (r.1.length ≤ 1000 ∧ ∀ row ∈ r.1, row.length ≤ 1000) ∧ r.2.1 = code ∧ 0 ≤ r.2.2.1 ∧ r.2.2.1 ≤ A

variable {Q : List (List Int) × List Int × Int × Int → Prop}
theorem alg_11 (h1 : Mx mv) (hm : 1 ≤ mv.length) (h2 : Mx sv) {x6 : Int} {x8 a s : Int} (hx8 : 0 ≤ x8 ∧ x8 < (sv.length : Int)) {rows : List (List Int)} {row : List Int} (hrow : row.length ≤ 200) {z : Nat}
    (hc : ∀ f v, z ≤ f → OK ((spec_l1Cur_algorithm.bs k f).2.1 x6 (w64 (x8 + 1)) code a s mv sv rows (row ++ [v])) Q) :
    ∀ (d f : Nat) (x9 x10 : Int), z + d + 1 ≤ f → x10 + d = mv.length → 0 ≤ x10 → 0 ≤ x9 ∧ x9 ≤ 1000 → OK ((spec_l1Cur_algorithm.bs k f).2.2 x6 x8 x9 x10 code a s mv sv rows row) Q := by
  have n1 := h1.1
  intro d
  induction d with
  | zero =>
    intro f x9 x10 hf hx h0 h9
    obtain ⟨f, rfl⟩ : ∃ g, f = g + 1 := ⟨f - 1, by omega⟩
    simp only [spec_l1Cur_algorithm.bs, spec_l1Cur_algorithm.B11]
    exact OK.bif (fun h => by omega) fun _ => OK.req (by rw [capB_eq]; omega) (hc f _ (by omega))
  | succ d ih =>
    intro f x9 x10 hf hx h0 h9
    obtain ⟨f, rfl⟩ : ∃ g, f = g + 1 := ⟨f - 1, by omega⟩
    simp only [spec_l1Cur_algorithm.bs, spec_l1Cur_algorithm.B11]
    rw [w64_id (n := x10 + 1) (by omega) (by omega), w64_id (n := x9 + 1) (by omega) (by omega)]
    have t1 := Int.tmod_nonneg (mv.length : Int) (show 0 ≤ x9 + 1 by omega)
    have t2 := Int.tmod_lt_of_pos (x9 + 1) (show 0 < (mv.length : Int) by omega)
    have next := ih f (Int.tmod (x9 + 1) mv.length) (x10 + 1) (by omega) (by omega) (by omega) (by omega)
    refine OK.bif (fun _ => OK.req hx8 (OK.bif (fun _ => OK.req (by omega) next) fun hlt => OK.req hx8 (OK.req (by omega) (OK.bif (fun _ => OK.req (by omega) next) fun _ => OK.req (by rw [capB_eq]; omega) (hc f _ (by omega)))))) fun h => by omega

theorem alg_7 (hb : By code) (h1 : Mx mv) (hm : 1 ≤ mv.length) (h2 : Mx sv) {x6 : Int} (h6 : 0 ≤ x6 ∧ x6 ≤ 1000) {rows : List (List Int)} (hrows : rows.length ≤ 200) {A : Int} (hA : A ≤ 10000000) {z : Nat}
    (hc : ∀ f a s row, z ≤ f → 0 ≤ a → a ≤ A → row.length = sv.length → OK ((spec_l1Cur_algorithm.bs k f).1 (x6 + 1) code a s mv sv (rows ++ [row])) Q) :
    ∀ (d f : Nat) (a s : Int) (row : List Int), z + 110 * (d + 1) ≤ f → row.length + d = sv.length → 0 ≤ a → a + 2 * d ≤ A → OK ((spec_l1Cur_algorithm.bs k f).2.1 x6 row.length code a s mv sv rows row) Q := by
  have n1 := h1.1
  have n2 := h2.1
  intro d
  induction d with
  | zero =>
    intro f a s row hf hx h0 ha
    obtain ⟨f, rfl⟩ : ∃ g, f = g + 1 := ⟨f - 1, by omega⟩
    simp only [spec_l1Cur_algorithm.bs, spec_l1Cur_algorithm.B7]
    rw [w64_id (n := x6 + 1) (by omega) (by omega)]
    exact OK.bif (fun h => by omega) fun _ => OK.req (by rw [capB_eq]; omega) (hc f _ _ _ (by omega) h0 (by omega) (by omega))
  | succ d ih =>
    intro f a s row hf hx h0 ha
    obtain ⟨f, rfl⟩ : ∃ g, f = g + 1 := ⟨f - 1, by omega⟩
    simp only [spec_l1Cur_algorithm.bs, spec_l1Cur_algorithm.B7]
    refine OK.bif (fun hlt => OK.bind (pick_ok hb h0 (by omega)) ?_) fun h => by omega
    rintro ⟨v, c, a2, s2⟩ ⟨v1, v2, _, rfl, v3, v4⟩
    dsimp only at v1 v2 v3 v4 ⊢
    have v2 := v2 (by omega)
    refine alg_11 h1 hm h2 ⟨by omega, hlt⟩ (by omega) (z := z + 110 * (d + 1)) (fun f u hf => ?_) mv.length f v 0 (by omega) (by omega) (by omega) (by omega)
    have := ih f a2 s2 (row ++ [u]) hf (by simp; omega) (by omega) (by omega)
    rw [w64_id (n := (row.length : Int) + 1) (by omega) (by omega)]
    rw [List.length_append, List.length_singleton] at this
    exact this

theorem alg_3 (hb : By code) (h1 : Mx mv) (hm : 1 ≤ mv.length) (h2 : Mx sv) {A : Int} (hA : A ≤ 1000000) :
    ∀ (d f : Nat) (a s : Int) (rows : List (List Int)), 12000 * (d + 1) ≤ f → rows.length + d = mv.length → (∀ row ∈ rows, row.length ≤ 200) → 0 ≤ a → a + 200 * d + 10 ≤ A → OK ((spec_l1Cur_algorithm.bs k f).1 rows.length code a s mv sv rows) (AlgDr code A) := by
  have n1 := h1.1
  have n2 := h2.1
  intro d
  induction d with
  | zero =>
    intro f a s rows hf hx hr h0 ha
    obtain ⟨f, rfl⟩ : ∃ g, f = g + 1 := ⟨f - 1, by omega⟩
    simp only [spec_l1Cur_algorithm.bs, spec_l1Cur_algorithm.B3]
    have hr2 : ∀ row ∈ rows, row.length ≤ 1000 := fun row h => by have := hr row h; omega
    refine OK.bif (fun h => by omega) fun _ => OK.bif (fun hpos => OK.req (by omega) (OK.bif (fun hp2 => ?_) fun _ => OK.ret ⟨⟨by dsimp only; omega, hr2⟩, rfl, h0, by dsimp only; omega⟩)) fun _ => OK.ret ⟨⟨by dsimp only; omega, hr2⟩, rfl, h0, by dsimp only; omega⟩
    have hfirst := hr _ (getD_mem (l := rows) (i := 0) (d := []) (by omega) hpos)
    rw [Int.toNat_zero] at hfirst
    have st : ∀ (q : List Int), q.length ≤ 1000 → ∀ row ∈ rows.set 0 q, row.length ≤ 1000 := fun q hq row h => by
      rcases List.mem_or_eq_of_mem_set h with h | rfl
      · exact hr2 row h
      · exact hq
    refine OK.bind (pick_ok hb h0 (by omega)) ?_
    rintro ⟨v, c, a2, s2⟩ ⟨v1, v2, _, rfl, v3, v4⟩
    dsimp only at v1 v2 v3 v4 ⊢
    refine OK.bif (fun _ => OK.req (by omega) (OK.bind (among_ok hb (by simp) (by omega) (by omega)) ?_)) fun _ => OK.bif (fun _ => ?_) fun _ => OK.bif (fun _ => ?_) fun _ => ?_
    · rintro ⟨v, c, a3, s3⟩ ⟨_, rfl, u3, u4⟩
      dsimp only at u3 u4 ⊢
      exact OK.req (by omega) (OK.ret ⟨⟨by simp; omega, st _ (by rw [List.length_set]; omega)⟩, rfl, by dsimp only; omega, by dsimp only; omega⟩)
    · exact OK.req (by omega) (OK.req (by rw [capB_eq]; omega) (OK.req (by omega) (OK.req trivial (OK.ret ⟨⟨by simp; omega, st _ (by rw [List.length_append, List.length_singleton]; omega)⟩, rfl, by dsimp only; omega, by dsimp only; omega⟩))))
    · exact OK.req (by omega) (OK.ret ⟨⟨by simp; omega, fun row h => hr2 row (List.mem_of_mem_drop (List.mem_of_mem_take h))⟩, rfl, by dsimp only; omega, by dsimp only; omega⟩)
    · exact OK.ret ⟨⟨by dsimp only; omega, hr2⟩, rfl, by dsimp only; omega, by dsimp only; omega⟩
  | succ d ih =>
    intro f a s rows hf hx hr h0 ha
    obtain ⟨f, rfl⟩ : ∃ g, f = g + 1 := ⟨f - 1, by omega⟩
    simp only [spec_l1Cur_algorithm.bs, spec_l1Cur_algorithm.B3]
    refine OK.bif (fun hlt => ?_) fun h => by omega
    refine alg_7 (A := a + 200) hb h1 hm h2 (by omega) (by omega) (by omega) (z := 12000 * (d + 1)) (fun f a' s' row hf h0' ha' hrow => ?_) sv.length f a s [] (by omega) (by simp) h0 (by omega)
    have := ih f a' s' (rows ++ [row]) hf (by simp; omega) (fun q hq => (List.mem_append.1 hq).elim (hr q) fun h => by rw [List.mem_singleton.1 h]; omega) h0' (by omega)
    rw [List.length_append, List.length_singleton] at this
    exact this

theorem alg_ok (hk : 2000000 ≤ k) (hb : By code) (h1 : Mx mv) (hm : 1 ≤ mv.length) (h2 : Mx sv) {a s : Int} (h0 : 0 ≤ a) (ha : a ≤ 800000) : OK (spec_l1Cur_algorithm.f k mv sv code a s) (AlgDr code (a + 30000)) := by
  have n1 := h1.1
  simp only [spec_l1Cur_algorithm.f, spec_l1Cur_algorithm.B]
  exact alg_3 hb h1 hm h2 (by omega) mv.length k a s [] (by omega) (by simp) (fun q hq => by simp at hq) h0 (by omega)

def MixDr (r : List Int × Int × Int × List Int × List (List (List Int))) : Prop := r.2.2.2.1.length ≤ 2000 ∧ Sz r.2.2.2.2

theorem drawCh_ok (hb : By code) (hk : 2000000 ≤ k) : OK (spec_DrawIsChances.f k code) fun r => Mx r.1 ∧ Mx r.2.1 ∧ r.2.2.1.length ≤ 100000 ∧ Sh r.2.2.2 := by
  simp only [spec_DrawIsChances.f, spec_DrawIsChances.B]
  refine OK.bind (problem_ok hk hb (by omega) (by omega)) ?_
  rintro ⟨sv, c, a, s, mv⟩ ⟨p1, p2, p3, p4, p5, p6, p7⟩
  dsimp only at p1 p2 p3 p4 p5 p6 p7 ⊢
  subst p3
  refine OK.bind (chances_ok hk hb (by omega) (by omega)) ?_
  rintro ⟨c, a2, s2, cw, cs⟩ ⟨rfl, q2, q3, q4, q5, q6⟩
  dsimp only at q2 q3 q4 q5 q6 ⊢
  exact OK.ret ⟨p6, p1, by dsimp only; omega, by dsimp only; omega, fun q hq => by have := q6 q hq; omega⟩

end
end Go.Proofs.YtobfbgmglopdhaaGreat
namespace Go.Proofs.YtobfbgmglopdhaaGreat
open Ab Pl

section
variable {mv sv : List (List Int)} {us : List Int} {ns : List (List (List Int))} {k : Nat}

theorem srv_in {r b : Int} (hb : 0 ≤ b ∧ b < ((sv.getD r.toNat []).length : Int)) (hc : 0 ≤ ce sv r b) : b ∈ srv sv r := by
  unfold srv
  rw [List.mem_filter, List.mem_map]
  exact ⟨⟨b.toNat, by rw [List.mem_range]; omega, by omega⟩, decide_eq_true hc⟩

theorem AlgP.to {nx : List (List Int)} (hg : GoodP mv sv) (h : AlgP mv sv nx) {a r : Int} (ha : 0 ≤ a ∧ a < (mv.length : Int)) (hr : 0 ≤ r ∧ r < (sv.length : Int)) : ((nx.getD a.toNat []).length : Int) = sv.length ∧ ce nx a r ∈ srv sv r ∧ (0 ≤ ce nx a r ∧ ce nx a r < (mv.length : Int)) := by
  have h1 := h.2 _ (getD_mem (l := nx) (i := a) (d := []) ha.1 (by have := h.1; omega))
  have h2 := h1.1
  have h3 := h1.2 r.toNat (by omega)
  have h4 := (hg.row hr).1
  have e : ce nx a r = (nx.getD a.toNat []).getD r.toNat 0 := rfl
  rw [Int.toNat_of_nonneg hr.1, ← e] at h3
  exact ⟨h2, srv_in (by omega) h3.2, h3.1⟩

/-- what an algorithm pays -/
def rc (mv sv nx : List (List Int)) : List Int → Int → Int
  | [], _ => 0
  | r :: q, a => co mv sv a (ce nx a r) r + rc mv sv nx q (ce nx a r)

theorem rc_bd (hg : GoodP mv sv) {nx : List (List Int)} (h : AlgP mv sv nx) : ∀ (q : List Int) (a : Int), (∀ x ∈ q, 0 ≤ x ∧ x < (sv.length : Int)) → 0 ≤ a ∧ a < (mv.length : Int) → 0 ≤ rc mv sv nx q a ∧ rc mv sv nx q a ≤ 119 * q.length
  | [], a, _, _ => by simp [rc]
  | r :: q, a, hq, ha => by
    have hr := hq r (by simp)
    have ht := h.to hg ha hr
    have hco := hg.co ha hr ht.2.1
    have := rc_bd hg h q (ce nx a r) (fun x hx => hq x (List.mem_cons_of_mem _ hx)) ht.2.2
    simp only [rc, List.length_cons]; omega

theorem ran_ok (hk : 2000000 ≤ k) (hg : GoodP mv sv) {nx : List (List Int)} (h : AlgP mv sv nx) {st : Int} (hst : 0 ≤ st ∧ st < (mv.length : Int)) {q : List Int} (hl : q.length ≤ 1000) (hq : ∀ x ∈ q, 0 ≤ x ∧ x < (sv.length : Int)) :
    OK (impl_Problem_ran.f k mv sv nx st q) fun x => x.1 = rc mv sv nx q st := by
  simp only [impl_Problem_ran.f, impl_Problem_ran.B]
  have main : ∀ (d f : Nat) (i : Nat) (a s : Int) (out : List Int), d + 1 ≤ f → i + d = q.length → 0 ≤ a ∧ a < (mv.length : Int) → 0 ≤ s ∧ s ≤ 119 * i → out.length ≤ i → s + rc mv sv nx (q.drop i) a = rc mv sv nx q st →
      OK (impl_Problem_ran.bs k f nx a s q q.length i mv sv out) fun x => x.1 = rc mv sv nx q st := by
    intro d
    induction d with
    | zero =>
      intro f i a s out hf hi ha hs ho he
      obtain ⟨f, rfl⟩ : ∃ g, f = g + 1 := ⟨f - 1, by omega⟩
      simp only [impl_Problem_ran.bs, impl_Problem_ran.B3]
      rw [List.drop_eq_nil_of_le (by omega)] at he
      refine OK.bif (fun h => by omega) fun _ => OK.ret ?_
      simp only [rc] at he
      dsimp only; omega
    | succ d ih =>
      intro f i a s out hf hi ha hs ho he
      obtain ⟨f, rfl⟩ : ∃ g, f = g + 1 := ⟨f - 1, by omega⟩
      simp only [impl_Problem_ran.bs, impl_Problem_ran.B3]
      have hdr := drop_at (l := q) (i := (i : Int)) (d := 0) (by omega) (by omega)
      have hr := hq _ (getD_mem (l := q) (i := (i : Int)) (d := 0) (by omega) (by omega))
      rw [show ((i : Int) + 1).toNat = i + 1 by omega, Int.toNat_natCast] at hdr
      rw [Int.toNat_natCast] at hr ⊢
      rw [hdr] at he
      generalize q.getD i 0 = r at he hr
      have ht := h.to hg ha hr
      have hco := hg.co ha hr ht.2.1
      have hnl := h.1
      have e : (nx.getD a.toNat []).getD r.toNat 0 = ce nx a r := rfl
      rw [e, cost_eq hg ha hr ht.2.1, w64_id (n := (i : Int) + 1) (by omega) (by omega), show (i : Int) + 1 = ((i + 1 : Nat) : Int) by omega]
      refine OK.bif (fun _ => OK.req (by omega) (OK.req (by omega) (OK.req (by omega) ?_))) fun h => by omega
      simp only [Option.bind_some, List.length_singleton]
      rw [w64_id (n := s + _) (by omega) (by omega)]
      refine OK.req (by rw [capB_eq]; omega) (ih f (i + 1) _ _ _ (by omega) (by omega) ht.2.2 (by omega) (by rw [List.length_append, List.length_singleton]; omega) ?_)
      simp only [rc] at he
      omega
  exact main q.length k 0 st 0 [] (by omega) (by omega) hst (by omega) (by simp) (by simp)

/-- the weighted cost of a mixture -/
def mx (mv sv : List (List Int)) (us : List Int) (ns : List (List (List Int))) (q : List Int) (a : Int) : Int := ((us.zip ns).map fun p => p.1 * rc mv sv p.2 q a).sum

theorem mx_bd (hg : GoodP mv sv) (hM : MixP mv sv us ns) {st : Int} (hst : 0 ≤ st ∧ st < (mv.length : Int)) {q : List Int} (hl : q.length ≤ 4) (hq : ∀ x ∈ q, 0 ≤ x ∧ x < (sv.length : Int)) : 0 ≤ mx mv sv us ns q st ∧ mx mv sv us ns q st ≤ 20000 := by
  have : Nn 5000 ((us.zip ns).map fun p => p.1 * rc mv sv p.2 q st) := by
    intro x hx
    obtain ⟨p, hp, rfl⟩ := List.mem_map.1 hx
    have h1 := hM.2.2.1 p.1 (List.of_mem_zip hp).1
    have h2 := rc_bd hg (hM.2.2.2 p.2 (List.of_mem_zip hp).2) q st hq hst
    have := mulbd (A := 9) (show 0 ≤ p.1 ∧ p.1 ≤ 9 by omega) h2
    omega
  have := this.sum
  have h1 := hM.1
  rw [List.length_map, List.length_zip] at this
  unfold mx; omega

/-! all sequences of a length -/
def Fz (n : Nat) : Nat → Nat
  | 0 => 1
  | j + 1 => n * (Fz n j + 1) + 1

def Inr (sv : List (List Int)) (q : List Int) : Prop := ∀ x ∈ q, 0 ≤ x ∧ x < (sv.length : Int)

variable {Q : Int × List Int → Prop} {st : Int} {L : Nat}
theorem repl_snoc (j : Nat) (p : List Int) : (p ++ [0]) ++ List.replicate j (0 : Int) = p ++ List.replicate (j + 1) 0 := by
  rw [List.append_assoc]; rfl

end
end Go.Proofs.YtobfbgmglopdhaaGreat
namespace Go.Proofs.YtobfbgmglopdhaaGreat
open Ab Pl

theorem foldl_min_le : ∀ (l : List Int) (x : Int), l.foldl min x ≤ x ∧ ∀ y ∈ l, l.foldl min x ≤ y
  | [], x => ⟨Int.le_refl _, fun y hy => by simp at hy⟩
  | z :: l, x => by
    have h := foldl_min_le l (min x z)
    rw [List.foldl_cons]
    refine ⟨by omega, fun y hy => ?_⟩
    rcases List.mem_cons.1 hy with rfl | hy
    · omega
    · exact h.2 y hy
theorem minL_le {l : List Int} {x : Int} (h : x ∈ l) : minL l ≤ x := by
  cases l with
  | nil => simp at h
  | cons y l =>
    show l.foldl min y ≤ x
    have h2 := foldl_min_le l y
    rcases List.mem_cons.1 h with rfl | h
    · exact h2.1
    · exact h2.2 x h
theorem best_le {sv : List (List Int)} {r b : Int} {g : Int → Int} (h : b ∈ srv sv r) : best sv r g ≤ g b := minL_le (List.mem_map.2 ⟨b, h, rfl⟩)

section
variable {mv sv cs : List (List Int)} {cw us : List Int} {ns : List (List (List Int))} {k : Nat}

/-- no algorithm is better than the best answers -/
theorem On_alg (hg : GoodP mv sv) (hc : ChP sv cw cs) {nx : List (List Int)} (hA : AlgP mv sv nx) : ∀ (m : Nat) (a : Int) (s : List Int), s.length + m = (cs.getD 0 []).length → 0 ≤ a → a < (mv.length : Int) →
    On mv sv cw cs m a s ≤ ((cw.zip cs).map fun p => if p.2.take s.length = s then p.1 * rc mv sv nx (p.2.drop s.length) a else 0).sum := by
  have h6 := hc.len6
  intro m
  induction m with
  | zero =>
    intro a s hl h0 h1
    rw [sum_zero']
    · exact Int.le_refl _
    · intro p hp
      have hq := (hc.2.2.2 p.2 (List.of_mem_zip hp).2).2.1
      rw [List.drop_eq_nil_of_le (by omega)]
      simp [rc]
  | succ m ih =>
    intro a s hl h0 h1
    have term : ∀ r ∈ idx sv.length, (if 0 < Wt cw cs (s ++ [r]) then best sv r fun b => Wt cw cs (s ++ [r]) * co mv sv a b r + On mv sv cw cs m b (s ++ [r]) else 0) ≤
        ((cw.zip cs).map fun p => if p.2.take (s.length + 1) = s ++ [r] then p.1 * (co mv sv a (ce nx a r) r + rc mv sv nx (p.2.drop (s.length + 1)) (ce nx a r)) else 0).sum := by
      intro r hr
      rw [idx_mem] at hr
      have ht := hA.to hg ⟨h0, h1⟩ hr
      have hlen : (s ++ [r]).length = s.length + 1 := by simp
      have hco := hg.co ⟨h0, h1⟩ hr ht.2.1
      split
      · refine Int.le_trans (best_le ht.2.1) ?_
        have h2 := ih (ce nx a r) (s ++ [r]) (by omega) ht.2.2.1 ht.2.2.2
        rw [hlen] at h2
        refine Int.le_trans (Int.add_le_add_left h2 _) (Int.le_of_eq ?_)
        rw [Int.mul_comm]
        unfold Wt
        rw [hlen, ← sum_cmul, ← sum_add]
        refine congrArg List.sum (List.map_congr_left fun p _ => ?_)
        split
        · rw [Int.mul_add, Int.mul_comm]
        · simp
      · have hz : ((cw.zip cs).map fun _ => (0 : Int)).sum = 0 := sum_zero' _ fun _ _ => rfl
        rw [← hz]
        refine sum_le _ fun p hp => ?_
        split
        · have hw := hc.2.2.1 p.1 (List.of_mem_zip hp).1
          have hq := hc.2.2.2 p.2 (List.of_mem_zip hp).2
          have hb := rc_bd hg hA (p.2.drop (s.length + 1)) (ce nx a r) (fun x hx => hq.2.2 x (List.mem_of_mem_drop hx)) ht.2.2
          exact Int.mul_nonneg (by omega) (by omega)
        · omega
    simp only [On]
    refine Int.le_trans (sum_le _ term) (Int.le_of_eq ?_)
    rw [sum_swap]
    refine congrArg List.sum (List.map_congr_left fun p hp => ?_)
    have hq := hc.2.2.2 p.2 (List.of_mem_zip hp).2
    have hq1 := hq.2.1
    have hlt : (s.length : Int) < p.2.length := by omega
    have htk := take_at (l := p.2) (i := (s.length : Int)) (d := 0) (by omega) hlt
    have hdr := drop_at (l := p.2) (i := (s.length : Int)) (d := 0) (by omega) hlt
    rw [show ((s.length : Int) + 1).toNat = s.length + 1 by omega, Int.toNat_natCast] at htk hdr
    have hr0 := hq.2.2 _ (getD_mem (l := p.2) (i := (s.length : Int)) (d := 0) (by omega) hlt)
    rw [Int.toNat_natCast] at hr0
    rw [htk]
    by_cases he : p.2.take s.length = s
    · rw [if_pos he, he, hdr, sum_one (r := p.2.getD s.length 0) hr0.1 hr0.2 fun x hx => ?_]
      · rw [if_pos rfl]
        simp only [rc]
      · refine if_neg fun e => hx ?_
        have := List.append_cancel_left e
        simpa using this.symm
    · rw [if_neg he, sum_zero]
      intro x _
      refine if_neg fun e => he ?_
      exact (List.append_inj' e rfl).1

theorem zip_sum : ∀ (us : List Int) {β : Type} (ns : List β), us.length = ns.length → ((us.zip ns).map (·.1)).sum = us.sum
  | [], _, [], _ => rfl
  | u :: us, _, n :: ns, h => by
    simp only [List.zip_cons_cons, List.map_cons, List.sum_cons]
    rw [zip_sum us ns (by simpa using h)]

theorem yao (hg : GoodP mv sv) (hc : ChP sv cw cs) (hM : MixP mv sv us ns) {st : Int} (hst : 0 ≤ st ∧ st < (mv.length : Int)) {o : Int}
    (ho : ∀ t : List Int, t.length = (cs.getD 0 []).length → Inr sv t → mx mv sv us ns t st ≤ o) :
    On mv sv cw cs (cs.getD 0 []).length st [] * us.sum ≤ o * cw.sum := by
  have hul : us.length = ns.length := by have := hM.2.1; omega
  rw [← zip_sum us ns hul, ← zip_sum cw cs hc.2.1, ← sum_cmul, ← sum_cmul]
  have s1 : ((us.zip ns).map fun p => On mv sv cw cs (cs.getD 0 []).length st [] * p.1).sum ≤ ((us.zip ns).map fun p => ((cw.zip cs).map fun x => p.1 * (x.1 * rc mv sv p.2 x.2 st)).sum).sum := by
    refine sum_le _ fun p hp => ?_
    have hA := hM.2.2.2 p.2 (List.of_mem_zip hp).2
    have hu := hM.2.2.1 p.1 (List.of_mem_zip hp).1
    have h := On_alg hg hc hA (cs.getD 0 []).length st [] (by simp) hst.1 hst.2
    simp only [List.length_nil, List.take_zero, List.drop_zero, if_true] at h
    rw [sum_cmul, Int.mul_comm]
    exact Int.mul_le_mul_of_nonneg_left h (by omega)
  refine Int.le_trans s1 ?_
  rw [sum_swap]
  refine sum_le _ fun x hx => ?_
  have hw := hc.2.2.1 x.1 (List.of_mem_zip hx).1
  have hq := hc.2.2.2 x.2 (List.of_mem_zip hx).2
  have h := ho x.2 (by have := hq.2.1; omega) hq.2.2
  have e : ((us.zip ns).map fun p => p.1 * (x.1 * rc mv sv p.2 x.2 st)) = (us.zip ns).map fun p => x.1 * (p.1 * rc mv sv p.2 x.2 st) :=
    List.map_congr_left fun p _ => by rw [Int.mul_left_comm]
  rw [e, sum_cmul, Int.mul_comm o]
  exact Int.mul_le_mul_of_nonneg_left h (by omega)

end

end Go.Proofs.YtobfbgmglopdhaaGreat
namespace Go.Proofs.YtobfbgmglopdhaaGreat
open Ab Pl

section
variable {k : Nat} {code : List Int} {mv sv nx cs : List (List Int)} {cw : List Int}

theorem vCut_ok (hb : By code) (hl : (code.length : Int) ≤ 65536) : OK (laws_vCut.f code 1) By := by
  simp only [laws_vCut.f, laws_vCut.B]
  have hw : ∀ n : Int, 0 ≤ IntKind.u8.wrap n ∧ IntKind.u8.wrap n < 256 := fun n => by rw [IntKind.wrap_u8]; omega
  have hd : ∀ (m : Nat) (x : Int), By (([] ++ List.drop m code) ++ [IntKind.u8.wrap x]) := fun m x y hy => by
    rcases List.mem_append.1 hy with hy | hy
    · exact hb y (List.mem_of_mem_drop hy)
    · rw [List.mem_singleton.1 hy]; exact hw x
  have hln : ∀ m : Nat, ((List.drop m code).length : Int) ≤ 65536 := fun m => by rw [List.length_drop]; omega
  refine OK.bif (fun h => ?_) fun h => ?_
  · have := hln (code.length : Int).toNat
    exact OK.req (by omega) (OK.req (by rw [capB_eq]; omega) (OK.req (by rw [capB_eq, List.nil_append, List.length_singleton]; omega) (OK.ret (hd _ _))))
  · have := hln (1 : Int).toNat
    exact OK.req (by omega) (OK.req (by rw [capB_eq]; omega) (OK.req (by rw [capB_eq, List.nil_append, List.length_singleton]; omega) (OK.ret (hd _ _))))

theorem drawEC_ok (hb : By code) (hk : 2000000 ≤ k) : OK (spec_DrawExpectedCost.f k code) fun r => Mx r.1 ∧ Mx r.2.1 ∧ (r.2.2.1.length ≤ 1000 ∧ ∀ row ∈ r.2.2.1, row.length ≤ 1000) ∧ r.2.2.2.2.1.length ≤ 100000 ∧ Sh r.2.2.2.2.2 := by
  simp only [spec_DrawExpectedCost.f, spec_DrawExpectedCost.B]
  refine OK.bind (problem_ok hk hb (by omega) (by omega)) ?_
  rintro ⟨sv, c, a, s, mv⟩ ⟨p1, p2, p3, p4, p5, p6, p7⟩
  dsimp only at p1 p2 p3 p4 p5 p6 p7 ⊢
  subst p3
  refine OK.bind (alg_ok hk hb p6 p7 p1 (by omega) (by omega)) ?_
  rintro ⟨nx, c, a2, s2⟩ ⟨q1, q2, q3, q4⟩
  dsimp only at q1 q2 q3 q4 ⊢
  subst q2
  refine OK.bind (state8_ok hb (by omega) (by omega)) ?_
  rintro ⟨st, c, a3, s3⟩ ⟨rfl, r3, r4⟩
  dsimp only at r3 r4 ⊢
  refine OK.bind (chances_ok hk hb (by omega) (by omega)) ?_
  rintro ⟨c, a4, s4, cw, cs⟩ ⟨rfl, u2, u3, u4, u5, u6⟩
  dsimp only at u2 u3 u4 u5 u6 ⊢
  exact OK.ret ⟨p6, p1, q1, by dsimp only; omega, by dsimp only; omega, fun q hq => by have := u6 q hq; omega⟩

/-- a mean's sum -/
def Sm2 (cw : List Int) (cs : List (List Int)) (g : List Int → Int) : Int := ((cw.zip cs).map fun p => p.1 * g p.2).sum

theorem Sm2_bd (hc : ChP sv cw cs) {g : List Int → Int} (hg : ∀ q ∈ cs, 0 ≤ g q ∧ g q ≤ 10000) : 0 ≤ Sm2 cw cs g ∧ Sm2 cw cs g ≤ 2000000 := by
  have : Nn 90000 ((cw.zip cs).map fun p => p.1 * g p.2) := by
    intro x hx
    obtain ⟨p, hp, rfl⟩ := List.mem_map.1 hx
    have h1 := hc.2.2.1 p.1 (List.of_mem_zip hp).1
    have h2 := hg p.2 (List.of_mem_zip hp).2
    have := mulbd (A := 9) (show 0 ≤ p.1 ∧ p.1 ≤ 9 by omega) h2
    omega
  have h := this.sum
  have h1 := hc.1
  rw [List.length_map, List.length_zip] at h
  unfold Sm2; omega

/-- a loop that sums up such products -/
theorem meanLoop {R : Type} {L : Nat → Int → Int → Option R} {E : Int → Option R} (hc : ChP sv cw cs) {g : List Int → Int} (hg : ∀ q ∈ cs, 0 ≤ g q ∧ g q ≤ 10000)
    (hL : ∀ f s i, 0 ≤ i → i < (cs.length : Int) → cs.getD i.toNat [] ∈ cs → L (f + 1) s i = L f (w64 (s + w64 (cw.getD i.toNat 0 * g (cs.getD i.toNat [])))) (w64 (i + 1))) (hE : ∀ f s i, (cs.length : Int) ≤ i → L (f + 1) s i = E s) :
    ∀ (d f : Nat) (i : Nat) (s : Int), d + 1 ≤ f → i + d = cs.length → 0 ≤ s ∧ s ≤ 100000 * i → s + (((cw.zip cs).drop i).map fun p => p.1 * g p.2).sum = Sm2 cw cs g → L f s i = E (Sm2 cw cs g) := by
  have hcn := hc.1
  have hcl := hc.2.1
  intro d
  induction d with
  | zero =>
    intro f i s hf hi hs he
    obtain ⟨f, rfl⟩ : ∃ g, f = g + 1 := ⟨f - 1, by omega⟩
    rw [hE f s i (by omega)]
    rw [List.drop_eq_nil_of_le (by rw [List.length_zip]; omega)] at he
    congr 1
    simpa using he
  | succ d ih =>
    intro f i s hf hi hs he
    obtain ⟨f, rfl⟩ : ∃ g, f = g + 1 := ⟨f - 1, by omega⟩
    have hdr := drop_at (l := cw.zip cs) (i := (i : Int)) (d := (0, [])) (by omega) (by rw [List.length_zip]; omega)
    rw [show ((i : Int) + 1).toNat = i + 1 by omega, Int.toNat_natCast, zip_get (by omega) (by omega)] at hdr
    have hq := getD_mem (l := cs) (i := (i : Int)) (d := []) (by omega) (by omega)
    have hw := hc.2.2.1 _ (getD_mem (l := cw) (i := (i : Int)) (d := 0) (by omega) (by omega))
    rw [hL f s i (by omega) (by omega) hq]
    rw [Int.toNat_natCast] at hq hw ⊢
    rw [hdr, List.map_cons, List.sum_cons] at he
    dsimp only at he
    have hp := mulbd (A := 9) (show 0 ≤ cw.getD i 0 ∧ cw.getD i 0 ≤ 9 by omega) (hg _ hq)
    rw [w64_id (n := cw.getD i 0 * _) (by omega) (by omega), w64_id (n := s + _) (by omega) (by omega), w64_id (n := (i : Int) + 1) (by omega) (by omega), show (i : Int) + 1 = ((i + 1 : Nat) : Int) by omega]
    exact ih f (i + 1) _ (by omega) (by omega) (by omega) (by omega)

theorem fst_eta {α β γ : Type} (o : Option (α × β × γ)) : (o.bind fun t => some (t.1, t.2.1, t.2.2)) = o := by cases o <;> rfl

theorem rc_small (hg : GoodP mv sv) (hc : ChP sv cw cs) (hA : AlgP mv sv nx) {st : Int} (hst : 0 ≤ st ∧ st < (mv.length : Int)) : ∀ q ∈ cs, 0 ≤ rc mv sv nx q st ∧ rc mv sv nx q st ≤ 10000 := fun q hq => by
  have h := hc.2.2.2 q hq
  have h1 := rc_bd hg hA q st h.2.2 hst
  have := h.1
  omega

theorem ecI_eq (hk : 2000000 ≤ k) (h1 : Mx mv) (h2 : Mx sv) (hsh : Sh cs) (hw : cw.length ≤ 100000) (hz : nx.length ≤ 1000 ∧ ∀ row ∈ nx, row.length ≤ 1000) {st : Int} :
    (DrP mv sv st cw cs ∧ AlgP mv sv nx → impl_ExpectedCost.f k mv sv nx st cw cs = impl_makeFrac.f k (Sm2 cw cs fun q => rc mv sv nx q st) cw.sum) ∧ (¬ (DrP mv sv st cw cs ∧ AlgP mv sv nx) → impl_ExpectedCost.f k mv sv nx st cw cs = some (0, 0, false)) := by
  simp only [impl_ExpectedCost.f, impl_ExpectedCost.B, fst_eta]
  rw [drawn_eq hk h1 h2 hsh hw]
  by_cases hD : DrP mv sv st cw cs
  · have hg := hD.1.1
    have hcl := hD.2.2.1
    have hcn := hD.2.1
    rw [isAlg_eq hk hg hz]
    simp only [hD, decide_true, Option.bind_some, Bool.not_true, cond_false, true_and]
    by_cases hA : AlgP mv sv nx
    · simp only [hA, decide_true, Bool.not_true, cond_false]
      refine ⟨fun _ => ?_, fun h => absurd trivial h⟩
      simp only [impl_Chances_mean_at_ExpectedCost_1.f, impl_Chances_mean_at_ExpectedCost_1.B]
      have hrs := rc_small hg hD.2 hA hD.1.2.1
      have := meanLoop (R := Int × Int × Bool) (L := fun f s i => impl_Chances_mean_at_ExpectedCost_1.bs k f mv sv nx st s cs cs.length i cw cs 0 0) (E := fun s => impl_makeFrac.f k s cw.sum) hD.2 hrs (fun f s i h0 h1' hq => ?_) (fun f s i h => ?_) cs.length k 0 0 (by omega) (by omega) (by omega) (by unfold Sm2; simp)
      · exact this
      · obtain ⟨x, e, hx⟩ := ran_ok hk hg hA hD.1.2.1 (q := cs.getD i.toNat []) (by have := (hD.2.2.2.2 _ hq).1; omega) (hD.2.2.2.2 _ hq).2.2
        simp only [impl_Chances_mean_at_ExpectedCost_1.bs, impl_Chances_mean_at_ExpectedCost_1.B3, impl_ExpectedCost_1.f, impl_ExpectedCost_1.B]
        rw [decide_eq_true h1', if_pos (by omega), if_pos (by omega), e]
        simp only [cond_true, Option.bind_some]
        rw [hx]
      · simp only [impl_Chances_mean_at_ExpectedCost_1.bs, impl_Chances_mean_at_ExpectedCost_1.B3, fst_eta]
        rw [decide_eq_false (by omega), total_eq hk (by omega) (fun x hx => by have := hD.2.2.2.1 x hx; omega)]
        rfl
    · simp only [hA, decide_false, Bool.not_false, cond_true]
      exact ⟨fun h => absurd h id, fun _ => trivial⟩
  · simp only [hD, decide_false, Bool.not_false, cond_true, false_and, Option.bind_some]
    exact ⟨fun h => absurd h id, fun _ => trivial⟩

/-! the spec's cost -/
def sts (nx : List (List Int)) : List Int → Int → List Int
  | [], _ => []
  | r :: q, a => ce nx a r :: sts nx q (ce nx a r)

theorem states_eq (hk : 2000000 ≤ k) (hg : GoodP mv sv) (hA : AlgP mv sv nx) {st : Int} (hst : 0 ≤ st ∧ st < (mv.length : Int)) {q : List Int} (hl : q.length ≤ 1000) (hq : ∀ x ∈ q, 0 ≤ x ∧ x < (sv.length : Int)) : spec_l8States.f k nx st q = some (sts nx q st) := by
  simp only [spec_l8States.f, spec_l8States.B]
  have main : ∀ (d f : Nat) (i : Nat) (a : Int) (out : List Int), d + 1 ≤ f → i + d = q.length → 0 ≤ a ∧ a < (mv.length : Int) → out.length ≤ i → out ++ sts nx (q.drop i) a = sts nx q st →
      spec_l8States.bs k f nx q a i out = some (sts nx q st) := by
    intro d
    induction d with
    | zero =>
      intro f i a out hf hi ha ho he
      obtain ⟨f, rfl⟩ : ∃ g, f = g + 1 := ⟨f - 1, by omega⟩
      simp only [spec_l8States.bs, spec_l8States.B3]
      rw [List.drop_eq_nil_of_le (by omega)] at he
      rw [decide_eq_false (by omega)]
      simpa [sts] using he
    | succ d ih =>
      intro f i a out hf hi ha ho he
      obtain ⟨f, rfl⟩ : ∃ g, f = g + 1 := ⟨f - 1, by omega⟩
      simp only [spec_l8States.bs, spec_l8States.B3]
      have hdr := drop_at (l := q) (i := (i : Int)) (d := 0) (by omega) (by omega)
      have hr := hq _ (getD_mem (l := q) (i := (i : Int)) (d := 0) (by omega) (by omega))
      rw [show ((i : Int) + 1).toNat = i + 1 by omega, Int.toNat_natCast] at hdr
      rw [Int.toNat_natCast] at hr ⊢
      rw [hdr] at he
      generalize q.getD i 0 = r at he hr
      have ht := hA.to hg ha hr
      have hnl := hA.1
      have e : (nx.getD a.toNat []).getD r.toNat 0 = ce nx a r := rfl
      rw [e, decide_eq_true (by omega : (i : Int) < q.length), if_pos (by omega), if_pos (by omega), if_pos (by omega), if_pos (by rw [capB_eq, List.length_singleton]; omega), w64_id (n := (i : Int) + 1) (by omega) (by omega), show (i : Int) + 1 = ((i + 1 : Nat) : Int) by omega]
      exact ih f (i + 1) _ _ (by omega) (by omega) ht.2.2 (by rw [List.length_append, List.length_singleton]; omega) (by rw [List.append_assoc]; exact he)
  exact main q.length k 0 st [] (by omega) (by omega) hst (by simp) (by simp)

theorem sts_len : ∀ (q : List Int) (a : Int), (sts nx q a).length = q.length
  | [], _ => rfl
  | r :: q, a => by simp [sts, sts_len q]

theorem sumS8_eq (hk : 2000000 ≤ k) (hg : GoodP mv sv) (hA : AlgP mv sv nx) {st : Int} (hst : 0 ≤ st ∧ st < (mv.length : Int)) {q : List Int} (hl : q.length ≤ 1000) (hq : ∀ x ∈ q, 0 ≤ x ∧ x < (sv.length : Int)) :
    spec_l8Sum.f k mv sv st q (sts nx q st) = some (rc mv sv nx q st) := by
  simp only [spec_l8Sum.f, spec_l8Sum.B]
  have main : ∀ (d f : Nat) (i : Nat) (a s : Int), d + 1 ≤ f → i + d = q.length → 0 ≤ a ∧ a < (mv.length : Int) → 0 ≤ s ∧ s ≤ 119 * i → (sts nx q st).drop i = sts nx (q.drop i) a → s + rc mv sv nx (q.drop i) a = rc mv sv nx q st →
      spec_l8Sum.bs k f q (sts nx q st) s a i mv sv = some (rc mv sv nx q st) := by
    intro d
    induction d with
    | zero =>
      intro f i a s hf hi ha hs hst he
      obtain ⟨f, rfl⟩ : ∃ g, f = g + 1 := ⟨f - 1, by omega⟩
      simp only [spec_l8Sum.bs, spec_l8Sum.B3]
      rw [List.drop_eq_nil_of_le (by omega)] at he
      rw [decide_eq_false (by omega)]
      simp only [rc] at he
      simp only [cond_false]
      congr 1; omega
    | succ d ih =>
      intro f i a s hf hi ha hs hst he
      obtain ⟨f, rfl⟩ : ∃ g, f = g + 1 := ⟨f - 1, by omega⟩
      simp only [spec_l8Sum.bs, spec_l8Sum.B3]
      have hsl := sts_len (nx := nx) q st
      have hdr := drop_at (l := q) (i := (i : Int)) (d := 0) (by omega) (by omega)
      have hds := drop_at (l := sts nx q st) (i := (i : Int)) (d := 0) (by omega) (by omega)
      have hr := hq _ (getD_mem (l := q) (i := (i : Int)) (d := 0) (by omega) (by omega))
      rw [show ((i : Int) + 1).toNat = i + 1 by omega, Int.toNat_natCast] at hdr hds
      rw [Int.toNat_natCast] at hr ⊢
      rw [hdr] at he hst
      rw [hds] at hst
      generalize q.getD i 0 = r at he hr hst
      simp only [sts] at hst
      have hst1 := (List.cons.inj hst).1
      have hst2 := (List.cons.inj hst).2
      rw [hst1]
      have ht := hA.to hg ha hr
      have hco := hg.co ha hr ht.2.1
      have hsq := hg.sq.row ha.1 ha.2
      have hrow := (hg.row hr).1
      have hmb := hg.mvb ha ht.2.2
      have e1 : (mv.getD a.toNat []).getD (ce nx a r).toNat 0 = ce mv a (ce nx a r) := rfl
      have e2 : (sv.getD r.toNat []).getD (ce nx a r).toNat 0 = ce sv r (ce nx a r) := rfl
      have e3 : co mv sv a (ce nx a r) r = ce mv a (ce nx a r) + ce sv r (ce nx a r) := rfl
      simp only [rc] at he
      rw [e1, e2, w64_id (n := s + ce mv a (ce nx a r)) (by omega) (by omega), w64_id (n := s + ce mv a (ce nx a r) + _) (by omega) (by omega), w64_id (n := (i : Int) + 1) (by omega) (by omega), show (i : Int) + 1 = ((i + 1 : Nat) : Int) by omega]
      rw [decide_eq_true (by omega : (i : Int) < q.length), if_pos (by omega), if_pos (by omega), if_pos (by omega), if_pos (by omega), if_pos (by omega), if_pos (by omega), if_pos (by omega), if_pos (by omega)]
      exact ih f (i + 1) _ _ (by omega) (by omega) ht.2.2 (by omega) hst2 (by omega)
  exact main q.length k 0 st 0 (by omega) (by omega) hst (by omega) (by simp) (by simp)

theorem ecS_eq (hk : 2000000 ≤ k) (h1 : Mx mv) (h2 : Mx sv) (hsh : Sh cs) (hw : cw.length ≤ 100000) (hz : nx.length ≤ 1000 ∧ ∀ row ∈ nx, row.length ≤ 1000) {st : Int} :
    (DrP mv sv st cw cs ∧ AlgP mv sv nx → spec_ExpectedCost.f k mv sv nx st cw cs = impl_makeFrac.f k (Sm2 cw cs fun q => rc mv sv nx q st) cw.sum) ∧ (¬ (DrP mv sv st cw cs ∧ AlgP mv sv nx) → spec_ExpectedCost.f k mv sv nx st cw cs = some (0, 0, false)) := by
  simp only [spec_ExpectedCost.f, spec_ExpectedCost.B]
  rw [startS_eq hk h1 h2 hsh hw]
  by_cases hD : DrP mv sv st cw cs
  · have hg := hD.1.1
    have hcl := hD.2.2.1
    have hcn := hD.2.1
    rw [algS_eq hk hg hz]
    simp only [hD, decide_true, Option.bind_some, Bool.not_true, cond_false, true_and]
    by_cases hA : AlgP mv sv nx
    · simp only [hA, decide_true, Bool.not_true, cond_false]
      refine ⟨fun _ => ?_, fun h => absurd trivial h⟩
      have hrs := rc_small hg hD.2 hA hD.1.2.1
      have := meanLoop (R := Int × Int × Bool) (L := fun f s i => spec_ExpectedCost.bs k f nx st s i mv sv cw cs 0 0) (E := fun s => impl_makeFrac.f k s cw.sum) hD.2 hrs (fun f s i h0 h1' hq => ?_) (fun f s i h => ?_) cs.length k 0 0 (by omega) (by omega) (by omega) (by unfold Sm2; simp)
      · exact this
      · have hql := (hD.2.2.2.2 _ hq).1
        simp only [spec_ExpectedCost.bs, spec_ExpectedCost.B5, spec_l8Cost.f, spec_l8Cost.B]
        rw [decide_eq_true h1', if_pos (by omega), if_pos (by omega), states_eq hk hg hA hD.1.2.1 (q := cs.getD i.toNat []) (by omega) (hD.2.2.2.2 _ hq).2.2]
        simp only [cond_true, Option.bind_some]
        rw [sumS8_eq hk hg hA hD.1.2.1 (q := cs.getD i.toNat []) (by omega) (hD.2.2.2.2 _ hq).2.2]
        rfl
      · simp only [spec_ExpectedCost.bs, spec_ExpectedCost.B5, fst_eta, make_eq]
        rw [decide_eq_false (by omega), sumS_eq hk (by omega) (fun x hx => by have := hD.2.2.2.1 x hx; omega)]
        rfl
    · simp only [hA, decide_false, Bool.not_false, cond_true]
      exact ⟨fun h => absurd h id, fun _ => trivial⟩
  · simp only [hD, decide_false, Bool.not_false, cond_true, false_and, Option.bind_some]
    exact ⟨fun h => absurd h id, fun _ => trivial⟩
end
end Go.Proofs.YtobfbgmglopdhaaGreat
namespace Go.Proofs.YtobfbgmglopdhaaGreat
open Ab Pl

section
variable {k : Nat} {mv sv : List (List Int)} {w : List Int}

/-- what a next work comes to by way of a state -/
def wg (mv sv : List (List Int)) (w : List Int) (r t s : Int) : Int := w.getD s.toNat 0 + ce sv r s + ce mv s t
def nw (mv sv : List (List Int)) (w : List Int) (r : Int) : List Int := (idx mv.length).map fun t => best sv r fun s => wg mv sv w r t s
def wk (mv sv : List (List Int)) : List Int → List Int → List Int
  | w, [] => w
  | w, r :: q => wk mv sv (nw mv sv w r) q

def WkP (mv : List (List Int)) (B : Int) (w : List Int) : Prop := w.length = mv.length ∧ ∀ x ∈ w, 0 ≤ x ∧ x ≤ B

theorem WkP.get {B : Int} (h : WkP mv B w) {s : Int} (h0 : 0 ≤ s) (h1 : s < (mv.length : Int)) : 0 ≤ w.getD s.toNat 0 ∧ w.getD s.toNat 0 ≤ B :=
  h.2 _ (getD_mem h0 (by have := h.1; omega))

theorem wg_bd (hg : GoodP mv sv) {B : Int} (h : WkP mv B w) {r t s : Int} (hr : 0 ≤ r ∧ r < (sv.length : Int)) (ht : 0 ≤ t ∧ t < (mv.length : Int)) (hs : s ∈ srv sv r) :
    (0 ≤ w.getD s.toNat 0 ∧ w.getD s.toNat 0 ≤ B) ∧ (0 ≤ ce sv r s ∧ ce sv r s ≤ 20) ∧ (0 ≤ ce mv s t ∧ ce mv s t ≤ 99) := by
  have h1 := hg.srv hr hs
  have h2 := hg.mvb h1.1 ht
  exact ⟨h.get h1.1.1 h1.1.2, ⟨h1.2, (hg.row hr).2.2 s⟩, h2⟩

theorem nw_ok (hg : GoodP mv sv) {B : Int} (h : WkP mv B w) {r : Int} (hr : 0 ≤ r ∧ r < (sv.length : Int)) : WkP mv (B + 119) (nw mv sv w r) := by
  refine ⟨by unfold nw; rw [List.length_map, idx_len], fun x hx => ?_⟩
  obtain ⟨t, ht, rfl⟩ := List.mem_map.1 hx
  rw [idx_mem] at ht
  refine best_bd (hg.row hr).2.1 fun s hs => ?_
  have := wg_bd hg h hr ht hs
  unfold wg; omega

theorem nw_get {r t : Int} (ht : 0 ≤ t ∧ t < (mv.length : Int)) : (nw mv sv w r).getD t.toNat 0 = best sv r fun s => wg mv sv w r t s := by
  unfold nw
  exact idx_get ht.1 ht.2

/-! the impl's -/
theorem repeat_1 (k : Nat) : slices_Repeat.f (k + 4) [1073741824] 1 = some [1073741824] := by kernel_rfl
theorem repeat_2 (k : Nat) : slices_Repeat.f (k + 4) [1073741824] 2 = some [1073741824, 1073741824] := by kernel_rfl
theorem repeat_3 (k : Nat) : slices_Repeat.f (k + 4) [1073741824] 3 = some [1073741824, 1073741824, 1073741824] := by kernel_rfl
theorem repeat_4 (k : Nat) : slices_Repeat.f (k + 4) [1073741824] 4 = some [1073741824, 1073741824, 1073741824, 1073741824] := by kernel_rfl
theorem repeat_eq (hk : 2000000 ≤ k) {n : Nat} (hn : 1 ≤ n ∧ n ≤ 4) : slices_Repeat.f k [1073741824] n = some (List.replicate n 1073741824) := by
  obtain ⟨k, rfl⟩ : ∃ g, k = g + 4 := ⟨k - 4, by omega⟩
  have h : n = 1 ∨ n = 2 ∨ n = 3 ∨ n = 4 := by omega
  rcases h with e | e | e | e
  · subst e; exact repeat_1 k
  · subst e; exact repeat_2 k
  · subst e; exact repeat_3 k
  · subst e; exact repeat_4 k

theorem getD_get {l : List Int} {t : Nat} (h : t < l.length) : l.getD t 0 = l[t] := by simp [List.getD, List.getElem?_eq_getElem h]

theorem list_idx {l : List Int} {n : Nat} {F : Int → Int} (hl : l.length = n) (h : ∀ t : Nat, t < n → l.getD t 0 = F t) : l = (idx n).map F := by
  refine List.ext_getElem (by rw [List.length_map, idx_len, hl]) fun i h1 h2 => ?_
  have := h i (by omega)
  simp only [List.getD, List.getElem?_eq_getElem h1, Option.getD_some] at this
  rw [this]
  simp [idx]

theorem next_6 (hg : GoodP mv sv) {B : Int} (hB : B ≤ 1000000) (hw : WkP mv B w) {r : Int} (hr : 0 ≤ r ∧ r < (sv.length : Int)) {s : Int} (hs : s ∈ srv sv r) {F : Int → Int} {Q : Option (List Int)} {i : Int} {z : Nat}
    (hc : ∀ f, z ≤ f → (impl_Problem_nextWork.bs k f).1 w r (srv sv r).length (w64 (i + 1)) mv sv ((idx mv.length).map fun t => min (F t) (wg mv sv w r t s)) (srv sv r) = Q) :
    ∀ (d f : Nat) (t : Nat), z + d + 1 ≤ f → t + d = mv.length →
      (impl_Problem_nextWork.bs k f).2 w r s (srv sv r).length i mv.length t mv sv ((idx mv.length).map fun t' => if t' < (t : Int) then min (F t') (wg mv sv w r t' s) else F t') (srv sv r) = Q := by
  have hml := hg.1
  have hwl := hw.1
  have hs1 := hg.srv hr hs
  have hrow := (hg.row hr).1
  intro d
  induction d with
  | zero =>
    intro f t hf ht
    obtain ⟨f, rfl⟩ : ∃ g, f = g + 1 := ⟨f - 1, by omega⟩
    simp only [impl_Problem_nextWork.bs, impl_Problem_nextWork.B6]
    rw [decide_eq_false (by omega)]
    have e : ((idx mv.length).map fun t' => if t' < (t : Int) then min (F t') (wg mv sv w r t' s) else F t') = (idx mv.length).map fun t => min (F t) (wg mv sv w r t s) :=
      List.map_congr_left fun x hx => by rw [idx_mem] at hx; rw [if_pos (by omega)]
    rw [e]
    exact hc f (by omega)
  | succ d ih =>
    intro f t hf ht
    obtain ⟨f, rfl⟩ : ∃ g, f = g + 1 := ⟨f - 1, by omega⟩
    simp only [impl_Problem_nextWork.bs, impl_Problem_nextWork.B6]
    have hl : ((idx mv.length).map fun t' => if t' < (t : Int) then min (F t') (wg mv sv w r t' s) else F t').length = mv.length := by rw [List.length_map, idx_len]
    have hget : ((idx mv.length).map fun t' => if t' < (t : Int) then min (F t') (wg mv sv w r t' s) else F t').getD (t : Int).toNat 0 = F t := by
      rw [idx_get (i := (t : Int)) (by omega) (by omega), if_neg (by omega)]
    have hset : ((idx mv.length).map fun t' => if t' < (t : Int) then min (F t') (wg mv sv w r t' s) else F t').set t (min (F t) (wg mv sv w r t s)) =
        (idx mv.length).map fun t' => if t' < ((t + 1 : Nat) : Int) then min (F t') (wg mv sv w r t' s) else F t' := by
      refine list_idx (by rw [List.length_set, hl]) fun j hj => ?_
      by_cases e : j = t
      · subst e
        rw [if_pos (by omega)]
        have : j < (((idx mv.length).map fun t' => if t' < (j : Int) then min (F t') (wg mv sv w r t' s) else F t').set j (min (F j) (wg mv sv w r j s))).length := by rw [List.length_set, hl]; exact hj
        simp only [List.getD, List.getElem?_eq_getElem this, Option.getD_some, List.getElem_set_self]
      · have e1 : (((idx mv.length).map fun t' => if t' < (t : Int) then min (F t') (wg mv sv w r t' s) else F t').set t (min (F t) (wg mv sv w r t s))).getD j 0 = ((idx mv.length).map fun t' => if t' < (t : Int) then min (F t') (wg mv sv w r t' s) else F t').getD j 0 := by
          simp only [List.getD]
          rw [List.getElem?_set_ne (fun h => e h.symm)]
        rw [e1]
        have e2 := idx_get (n := mv.length) (f := fun t' => if t' < (t : Int) then min (F t') (wg mv sv w r t' s) else F t') (d := 0) (i := (j : Int)) (by omega) (by omega)
        rw [Int.toNat_natCast] at e2
        rw [e2]
        by_cases h : j < t
        · rw [if_pos (by omega), if_pos (by omega)]
        · rw [if_neg (by omega), if_neg (by omega)]
    have hb := wg_bd hg hw hr (t := (t : Int)) (by omega) hs
    have hsq := hg.sq.row hs1.1.1 hs1.1.2
    have e1 : (sv.getD r.toNat []).getD s.toNat 0 = ce sv r s := rfl
    have e2 : (mv.getD s.toNat []).getD (t : Int).toNat 0 = ce mv s t := rfl
    rw [hl, hget, e1, e2, w64_id (n := w.getD s.toNat 0 + ce sv r s) (by omega) (by omega), w64_id (n := w.getD s.toNat 0 + ce sv r s + _) (by omega) (by omega), w64_id (n := (t : Int) + 1) (by omega) (by omega)]
    rw [decide_eq_true (by omega : (t : Int) < mv.length), if_pos (by omega), if_pos (by omega), if_pos (by omega), if_pos (by omega), if_pos (by omega), if_pos (by omega), if_pos (by omega)]
    have e3 : w.getD s.toNat 0 + ce sv r s + ce mv s t = wg mv sv w r t s := rfl
    rw [e3, Int.toNat_natCast, hset, show (t : Int) + 1 = ((t + 1 : Nat) : Int) by omega]
    exact ih f (t + 1) (by omega) (by omega)

theorem nextI_eq (hk : 2000000 ≤ k) (h2 : Mx sv) (hg : GoodP mv sv) {B : Int} (hB : B ≤ 1000000) (hw : WkP mv B w) {r : Int} (hr : 0 ≤ r ∧ r < (sv.length : Int)) : impl_Problem_nextWork.f k mv sv w r = some (nw mv sv w r) := by
  have hml := hg.1
  have hwl := hw.1
  have hrow := (hg.row hr)
  have hsl := hg.srvlen hr
  simp only [impl_Problem_nextWork.f, impl_Problem_nextWork.B]
  rw [hwl, repeat_eq hk hml, served_eq hk h2 hr]
  simp only [Option.bind_some]
  have main : ∀ (d f : Nat) (i : Nat) (F : Int → Int), 10 * (d + 1) ≤ f → i + d = (srv sv r).length → (∀ t, 0 ≤ t → t < (mv.length : Int) → ((((srv sv r).drop i).map fun s => wg mv sv w r t s).foldl min (F t)) = best sv r fun s => wg mv sv w r t s) →
      (impl_Problem_nextWork.bs k f).1 w r (srv sv r).length i mv sv ((idx mv.length).map F) (srv sv r) = some (nw mv sv w r) := by
    intro d
    induction d with
    | zero =>
      intro f i F hf hi hF
      obtain ⟨f, rfl⟩ : ∃ g, f = g + 1 := ⟨f - 1, by omega⟩
      simp only [impl_Problem_nextWork.bs, impl_Problem_nextWork.B3]
      rw [decide_eq_false (by omega)]
      simp only [cond_false]
      congr 1
      refine List.map_congr_left fun t ht => ?_
      rw [idx_mem] at ht
      have := hF t ht.1 ht.2
      rw [List.drop_eq_nil_of_le (by omega)] at this
      exact this
    | succ d ih =>
      intro f i F hf hi hF
      obtain ⟨f, rfl⟩ : ∃ g, f = g + 1 := ⟨f - 1, by omega⟩
      simp only [impl_Problem_nextWork.bs, impl_Problem_nextWork.B3]
      have hdr := drop_at (l := srv sv r) (i := (i : Int)) (d := 0) (by omega) (by omega)
      have hmem := getD_mem (l := srv sv r) (i := (i : Int)) (d := 0) (by omega) (by omega)
      rw [show ((i : Int) + 1).toNat = i + 1 by omega, Int.toNat_natCast] at hdr
      rw [Int.toNat_natCast] at hmem ⊢
      rw [decide_eq_true (by omega : (i : Int) < (srv sv r).length), if_pos (by omega), List.length_map, idx_len]
      simp only [cond_true]
      have h6 := next_6 (k := k) hg hB hw hr hmem (F := F) (i := (i : Int)) (z := 10 * (d + 1)) (Q := some (nw mv sv w r)) (fun f hf => by
        rw [w64_id (n := (i : Int) + 1) (by omega) (by omega), show (i : Int) + 1 = ((i + 1 : Nat) : Int) by omega]
        refine ih f (i + 1) _ hf (by omega) fun t h0 h1 => ?_
        have := hF t h0 h1
        rw [hdr, List.map_cons, List.foldl_cons] at this
        exact this) mv.length f 0 (by omega) (by omega)
      have e : ((idx mv.length).map fun t' => if t' < ((0 : Nat) : Int) then min (F t') (wg mv sv w r t' ((srv sv r).getD i 0)) else F t') = (idx mv.length).map F :=
        List.map_congr_left fun x hx => by rw [idx_mem] at hx; rw [if_neg (by omega)]
      rw [e] at h6
      exact h6
  have e0 : List.replicate mv.length (1073741824 : Int) = (idx mv.length).map fun _ => 1073741824 := list_idx (by simp) fun t ht => by
    have : t < (List.replicate mv.length (1073741824 : Int)).length := by simpa using ht
    simp only [List.getD, List.getElem?_eq_getElem this, Option.getD_some, List.getElem_replicate]
  rw [e0]
  refine main (srv sv r).length k 0 _ (by omega) (by omega) fun t h0 h1 => ?_
  rw [List.drop_zero]
  refine foldl_min_big (by simpa using hrow.2.1) fun x hx => ?_
  obtain ⟨s, hs, rfl⟩ := List.mem_map.1 hx
  have := wg_bd hg hw hr ⟨h0, h1⟩ hs
  unfold wg; omega

theorem workI_eq (hk : 2000000 ≤ k) (h2 : Mx sv) (hg : GoodP mv sv) {st : Int} (hst : 0 ≤ st ∧ st < (mv.length : Int)) {q : List Int} (hl : q.length ≤ 60) (hq : ∀ x ∈ q, 0 ≤ x ∧ x < (sv.length : Int)) :
    impl_Problem_work.f k mv sv st q = some (wk mv sv (mv.getD st.toNat []) q) ∧ WkP mv 10000 (wk mv sv (mv.getD st.toNat []) q) := by
  have hml := hg.1
  have hsq := hg.sq.row hst.1 hst.2
  simp only [impl_Problem_work.f, impl_Problem_work.B]
  rw [if_pos hst, clone_eq (by omega)]
  simp only [Option.bind_some]
  have hw0 : WkP mv 99 (mv.getD st.toNat []) := ⟨by omega, fun x hx => by
    obtain ⟨t, ht, rfl⟩ := List.getElem_of_mem hx
    have := hg.mvb hst (b := (t : Int)) (by omega)
    have e : ce mv st t = (mv.getD st.toNat [])[t] := by
      show (mv.getD st.toNat []).getD (t : Int).toNat 0 = _
      rw [Int.toNat_natCast]
      exact getD_get ht
    rw [← e]; exact this⟩
  have main : ∀ (d f : Nat) (i : Nat) (w : List Int), d + 1 ≤ f → i + d = q.length → WkP mv (99 + 119 * i) w → wk mv sv w (q.drop i) = wk mv sv (mv.getD st.toNat []) q →
      impl_Problem_work.bs k f q q.length i mv sv w = some (wk mv sv (mv.getD st.toNat []) q) ∧ WkP mv 10000 (wk mv sv (mv.getD st.toNat []) q) := by
    intro d
    induction d with
    | zero =>
      intro f i w hf hi hw he
      obtain ⟨f, rfl⟩ : ∃ g, f = g + 1 := ⟨f - 1, by omega⟩
      simp only [impl_Problem_work.bs, impl_Problem_work.B3]
      rw [List.drop_eq_nil_of_le (by omega)] at he
      simp only [wk] at he
      rw [decide_eq_false (by omega), ← he]
      exact ⟨rfl, hw.1, fun x hx => by have := hw.2 x hx; omega⟩
    | succ d ih =>
      intro f i w hf hi hw he
      obtain ⟨f, rfl⟩ : ∃ g, f = g + 1 := ⟨f - 1, by omega⟩
      simp only [impl_Problem_work.bs, impl_Problem_work.B3]
      have hdr := drop_at (l := q) (i := (i : Int)) (d := 0) (by omega) (by omega)
      have hr := hq _ (getD_mem (l := q) (i := (i : Int)) (d := 0) (by omega) (by omega))
      rw [show ((i : Int) + 1).toNat = i + 1 by omega, Int.toNat_natCast] at hdr
      rw [Int.toNat_natCast] at hr ⊢
      rw [hdr] at he
      rw [decide_eq_true (by omega : (i : Int) < q.length), if_pos (by omega), nextI_eq hk h2 hg (B := 99 + 119 * i) (by omega) hw hr, w64_id (n := (i : Int) + 1) (by omega) (by omega), show (i : Int) + 1 = ((i + 1 : Nat) : Int) by omega]
      have hw2 := nw_ok hg hw hr
      refine ih f (i + 1) _ (by omega) (by omega) ⟨hw2.1, fun x hx => by have := hw2.2 x hx; omega⟩ he
  exact main q.length k 0 _ (by omega) (by omega) ⟨hw0.1, fun x hx => by have := hw0.2 x hx; omega⟩ (by simp)

theorem minS_eq (hk : 2000000 ≤ k) {l : List Int} (h0 : 0 < l.length) (h1 : l.length ≤ 1000) : slices_Min.f k l = some (minL l) := by
  simp only [slices_Min.f, slices_Min.B]
  rw [decide_eq_false (by omega), if_pos (by omega)]
  simp only [cond_false]
  have main : ∀ (d f : Nat) (i m : Int), d + 1 ≤ f → i + d = l.length → 0 ≤ i → slices_Min.bs k f l m i = some ((l.drop i.toNat).foldl min m) := by
    intro d
    induction d with
    | zero =>
      intro f i m hf hi h0
      obtain ⟨f, rfl⟩ : ∃ g, f = g + 1 := ⟨f - 1, by omega⟩
      simp only [slices_Min.bs, slices_Min.B5]
      rw [decide_eq_false (by omega), drop_end (by omega)]; rfl
    | succ d ih =>
      intro f i m hf hi h0
      obtain ⟨f, rfl⟩ : ∃ g, f = g + 1 := ⟨f - 1, by omega⟩
      simp only [slices_Min.bs, slices_Min.B5]
      rw [decide_eq_true (by omega : i < (l.length : Int)), if_pos (by omega), w64_id (n := i + 1) (by omega) (by omega), drop_at (d := 0) h0 (by omega : i < (l.length : Int)), ih f (i + 1) _ (by omega) (by omega) (by omega)]
      rfl
  exact main (l.length - 1) k 1 _ (by omega) (by omega) (by omega)

theorem leastI_eq (hk : 2000000 ≤ k) (h2 : Mx sv) (hg : GoodP mv sv) {st : Int} (hst : 0 ≤ st ∧ st < (mv.length : Int)) {q : List Int} (hl : q.length ≤ 60) (hq : ∀ x ∈ q, 0 ≤ x ∧ x < (sv.length : Int)) :
    impl_Problem_leastCost.f k mv sv st q = some (minL (wk mv sv (mv.getD st.toNat []) q)) := by
  obtain ⟨e1, e2⟩ := workI_eq hk h2 hg hst hl hq
  have hml := hg.1
  have hwl := e2.1
  simp only [impl_Problem_leastCost.f, impl_Problem_leastCost.B]
  rw [e1]
  simp only [Option.bind_some]
  rw [minS_eq hk (by omega) (by omega)]; rfl

/-! the spec's -/
theorem nextS_7 (hg : GoodP mv sv) {B : Int} (hB : B ≤ 1000000) (hw : WkP mv B w) {r : Int} (hr : 0 ≤ r ∧ r < (sv.length : Int)) {t : Int} (ht : 0 ≤ t ∧ t < (mv.length : Int)) {out : List Int} (ho : out.length ≤ 100) {Q : Option (List Int)} {z : Nat}
    (hc : ∀ f, z ≤ f → (spec_l8Next.bs k f).1 w r (w64 (t + 1)) mv sv (out ++ [best sv r fun s => wg mv sv w r t s]) = Q) :
    ∀ (d f : Nat) (i : Nat) (m : Int), z + d + 1 ≤ f → i + d = mv.length → ((srvF sv r i d).map fun s => wg mv sv w r t s).foldl upm m = (best sv r fun s => wg mv sv w r t s) →
      (spec_l8Next.bs k f).2 w r t m i mv sv out = Q := by
  have hml := hg.1
  have hwl := hw.1
  have hrow := (hg.row hr).1
  intro d
  induction d with
  | zero =>
    intro f i m hf hi hm
    obtain ⟨f, rfl⟩ : ∃ g, f = g + 1 := ⟨f - 1, by omega⟩
    simp only [spec_l8Next.bs, spec_l8Next.B7]
    have hm' : m = _ := hm
    rw [decide_eq_false (by omega)]
    simp only [cond_false]
    rw [if_pos (by rw [capB_eq]; omega), hm']
    exact hc f (by omega)
  | succ d ih =>
    intro f i m hf hi hm
    obtain ⟨f, rfl⟩ : ∃ g, f = g + 1 := ⟨f - 1, by omega⟩
    simp only [spec_l8Next.bs, spec_l8Next.B7]
    rw [srvF_succ] at hm
    have e1 : (sv.getD r.toNat []).getD (i : Int).toNat 0 = ce sv r i := rfl
    have e2 : (mv.getD (i : Int).toNat []).getD t.toNat 0 = ce mv i t := rfl
    rw [e1, e2, w64_id (n := (i : Int) + 1) (by omega) (by omega), show (i : Int) + 1 = ((i + 1 : Nat) : Int) by omega]
    rw [decide_eq_true (by omega : (i : Int) < w.length), if_pos hr, if_pos (by omega)]
    simp only [cond_true]
    by_cases hce : 0 ≤ ce sv r i
    · rw [if_pos hce, List.map_cons, List.foldl_cons] at hm
      have hin : (i : Int) ∈ srv sv r := srvF_sub (i := i) (d := d + 1) (by rw [srvF_succ, if_pos hce]; simp) (by omega)
      have hb := wg_bd hg hw hr ht hin
      have hsq := hg.sq.row (i := (i : Int)) (by omega) (by omega)
      have e3 : w.getD (i : Int).toNat 0 + ce sv r i + ce mv i t = wg mv sv w r t i := rfl
      rw [w64_id (n := w.getD (i : Int).toNat 0 + ce sv r i) (by omega) (by omega), w64_id (n := w.getD (i : Int).toNat 0 + ce sv r i + _) (by omega) (by omega), e3]
      rw [decide_eq_false (by omega : ¬ ce sv r i < 0), if_pos (by omega), if_pos hr, if_pos (by omega), if_pos (by omega), if_pos (by omega)]
      simp only [cond_false]
      by_cases hm0 : m < 0
      · rw [decide_eq_true hm0]
        refine ih f (i + 1) _ (by omega) (by omega) ?_
        rw [show upm m _ = _ from if_pos hm0] at hm; exact hm
      · by_cases hlt : wg mv sv w r t i < m
        · rw [decide_eq_false hm0, decide_eq_true hlt]
          refine ih f (i + 1) _ (by omega) (by omega) ?_
          rw [show upm m (wg mv sv w r t i) = _ by unfold upm; rw [if_neg hm0, if_pos hlt]] at hm; exact hm
        · rw [decide_eq_false hm0, decide_eq_false hlt]
          refine ih f (i + 1) _ (by omega) (by omega) ?_
          rw [show upm m (wg mv sv w r t i) = _ by unfold upm; rw [if_neg hm0, if_neg hlt]] at hm; exact hm
    · rw [if_neg hce] at hm
      rw [decide_eq_true (by omega : ce sv r i < 0)]
      exact ih f (i + 1) _ (by omega) (by omega) hm

theorem nextS_eq (hk : 2000000 ≤ k) (hg : GoodP mv sv) {B : Int} (hB : B ≤ 1000000) (hw : WkP mv B w) {r : Int} (hr : 0 ≤ r ∧ r < (sv.length : Int)) : spec_l8Next.f k mv sv w r = some (nw mv sv w r) := by
  have hml := hg.1
  have hwl := hw.1
  simp only [spec_l8Next.f, spec_l8Next.B]
  have main : ∀ (d f : Nat) (i : Nat), 10 * (d + 1) ≤ f → i + d = mv.length → (spec_l8Next.bs k f).1 w r i mv sv ((idx i).map fun t => best sv r fun s => wg mv sv w r t s) = some (nw mv sv w r) := by
    intro d
    induction d with
    | zero =>
      intro f i hf hi
      obtain ⟨f, rfl⟩ : ∃ g, f = g + 1 := ⟨f - 1, by omega⟩
      simp only [spec_l8Next.bs, spec_l8Next.B3]
      rw [decide_eq_false (by omega), show i = mv.length by omega]
      rfl
    | succ d ih =>
      intro f i hf hi
      obtain ⟨f, rfl⟩ : ∃ g, f = g + 1 := ⟨f - 1, by omega⟩
      simp only [spec_l8Next.bs, spec_l8Next.B3]
      rw [decide_eq_true (by omega : (i : Int) < w.length)]
      simp only [cond_true]
      refine nextS_7 hg hB hw hr (t := (i : Int)) (by omega) (by rw [List.length_map, idx_len]; omega) (z := 10 * (d + 1)) (fun f hf => ?_) mv.length f 0 (-1) (by omega) (by omega) ?_
      · rw [w64_id (n := (i : Int) + 1) (by omega) (by omega), show (i : Int) + 1 = ((i + 1 : Nat) : Int) by omega]
        have := ih f (i + 1) hf (by omega)
        rw [idx_succ, List.map_append] at this
        exact this
      · rw [srvF_all hg hr]
        refine upm_minL (by simpa using (hg.row hr).2.1) fun x hx => ?_
        obtain ⟨s, hs, rfl⟩ := List.mem_map.1 hx
        have := wg_bd hg hw hr (t := (i : Int)) (by omega) hs
        unfold wg; omega
  exact main mv.length k 0 (by omega) (by omega)

theorem leastS_eq (hk : 2000000 ≤ k) (h2 : Mx sv) (hg : GoodP mv sv) {st : Int} (hst : 0 ≤ st ∧ st < (mv.length : Int)) {q : List Int} (hl : q.length ≤ 60) (hq : ∀ x ∈ q, 0 ≤ x ∧ x < (sv.length : Int)) :
    spec_l8Opt.f k mv sv st q = some (minL (wk mv sv (mv.getD st.toNat []) q)) := by
  have hml := hg.1
  have hsq := hg.sq.row hst.1 hst.2
  have hfin := (workI_eq hk h2 hg hst hl hq).2
  simp only [spec_l8Opt.f, spec_l8Opt.B, spec_l8Work.f, spec_l8Work.B]
  rw [if_pos hst, if_pos (by rw [capB_eq]; omega)]
  have hw0 : WkP mv 99 (mv.getD st.toNat []) := ⟨by omega, fun x hx => by
    obtain ⟨t, ht, rfl⟩ := List.getElem_of_mem hx
    have := hg.mvb hst (b := (t : Int)) (by omega)
    have e : ce mv st t = (mv.getD st.toNat [])[t] := by
      show (mv.getD st.toNat []).getD (t : Int).toNat 0 = _
      rw [Int.toNat_natCast]
      exact getD_get ht
    rw [← e]; exact this⟩
  have main : ∀ (d f : Nat) (i : Nat) (w : List Int), d + 1 ≤ f → i + d = q.length → WkP mv (99 + 119 * i) w → wk mv sv w (q.drop i) = wk mv sv (mv.getD st.toNat []) q →
      spec_l8Work.bs k f q i mv sv w = some (wk mv sv (mv.getD st.toNat []) q) := by
    intro d
    induction d with
    | zero =>
      intro f i w hf hi hw he
      obtain ⟨f, rfl⟩ : ∃ g, f = g + 1 := ⟨f - 1, by omega⟩
      simp only [spec_l8Work.bs, spec_l8Work.B3]
      rw [List.drop_eq_nil_of_le (by omega)] at he
      simp only [wk] at he
      rw [decide_eq_false (by omega), ← he]
      rfl
    | succ d ih =>
      intro f i w hf hi hw he
      obtain ⟨f, rfl⟩ : ∃ g, f = g + 1 := ⟨f - 1, by omega⟩
      simp only [spec_l8Work.bs, spec_l8Work.B3]
      have hdr := drop_at (l := q) (i := (i : Int)) (d := 0) (by omega) (by omega)
      have hr := hq _ (getD_mem (l := q) (i := (i : Int)) (d := 0) (by omega) (by omega))
      rw [show ((i : Int) + 1).toNat = i + 1 by omega, Int.toNat_natCast] at hdr
      rw [Int.toNat_natCast] at hr ⊢
      rw [hdr] at he
      rw [decide_eq_true (by omega : (i : Int) < q.length), if_pos (by omega), nextS_eq hk hg (B := 99 + 119 * i) (by omega) hw hr, w64_id (n := (i : Int) + 1) (by omega) (by omega), show (i : Int) + 1 = ((i + 1 : Nat) : Int) by omega]
      have hw2 := nw_ok hg hw hr
      exact ih f (i + 1) _ (by omega) (by omega) ⟨hw2.1, fun x hx => by have := hw2.2 x hx; omega⟩ he
  have := main q.length k 0 _ (by omega) (by omega) ⟨hw0.1, fun x hx => by have := hw0.2 x hx; omega⟩ (by simp)
  rw [show ((0 : Nat) : Int) = 0 from rfl] at this
  rw [List.nil_append, this]
  have hfl := hfin.1
  simp only [Option.bind_some]
  rw [least8_eq hk (by omega) (by omega)]; rfl
end
end Go.Proofs.YtobfbgmglopdhaaGreat
namespace Go.Proofs.YtobfbgmglopdhaaGreat
open Ab Pl

section
variable {k : Nat} {mv sv nx cs : List (List Int)} {w cw : List Int}

/-- the least work is at most what any answers cost -/
theorem wk_path (hg : GoodP mv sv) (hc : ChP sv cw cs) : ∀ (q : List Int) (a : Int) (s : List Int) (c B : Int) (w : List Int), q.length ≤ 6 → (∀ x ∈ q, 0 ≤ x ∧ x < (sv.length : Int)) → 0 ≤ a ∧ a < (mv.length : Int) → WkP mv B w →
    (∀ t, 0 ≤ t → t < (mv.length : Int) → w.getD t.toNat 0 ≤ c + ce mv a t) → minL (wk mv sv w q) ≤ c + pth mv sv cw cs q a s
  | [], a, s, c, B, w, _, _, ha, hw, h => by
    simp only [wk, pth]
    have hz : ce mv a a = 0 := by
      have h := hg.2.1.1.2 a a ha.1 ha.2 ha.1 ha.2
      unfold CellOK at h
      simp at h
      omega
    have := h a ha.1 ha.2
    have hm := minL_le (getD_mem (l := w) (i := a) (d := 0) ha.1 (by have := hw.1; omega))
    omega
  | r :: q, a, s, c, B, w, hl, hq, ha, hw, h => by
    rw [List.length_cons] at hl
    have hr := hq r (by simp)
    have hn := (nx_ok hg hc (m := q.length) (by omega) ha hr s).1
    have hb := (hg.srv hr hn).1
    have hw2 := nw_ok hg hw hr
    have := wk_path hg hc q (nx mv sv cw cs q.length a s r) (s ++ [r]) (c + co mv sv a (nx mv sv cw cs q.length a s r) r) _ (nw mv sv w r) (by omega) (fun x hx => hq x (List.mem_cons_of_mem _ hx)) hb hw2 fun t h0 h1 => by
      rw [nw_get ⟨h0, h1⟩]
      refine Int.le_trans (best_le hn) ?_
      have h2 := h _ hb.1 hb.2
      unfold wg co
      omega
    simp only [wk, pth]
    omega

theorem lc_small (hk : 2000000 ≤ k) (h2 : Mx sv) (hg : GoodP mv sv) (hc : ChP sv cw cs) {st : Int} (hst : 0 ≤ st ∧ st < (mv.length : Int)) : ∀ q ∈ cs, 0 ≤ minL (wk mv sv (mv.getD st.toNat []) q) ∧ minL (wk mv sv (mv.getD st.toNat []) q) ≤ 10000 := fun q hq => by
  have h := hc.2.2.2 q hq
  have h1 := h.1
  have hw := (workI_eq hk h2 hg hst (q := q) (by omega) h.2.2).2
  have hml := hg.1
  have hwl := hw.1
  exact hw.2 _ (minL_mem fun e => by rw [e] at hwl; simp at hwl; omega)

theorem elI_eq (hk : 2000000 ≤ k) (h1 : Mx mv) (h2 : Mx sv) (hsh : Sh cs) (hw : cw.length ≤ 100000) {st : Int} :
    (DrP mv sv st cw cs → impl_ExpectedLeast.f k mv sv st cw cs = impl_makeFrac.f k (Sm2 cw cs fun q => minL (wk mv sv (mv.getD st.toNat []) q)) cw.sum) ∧ (¬ DrP mv sv st cw cs → impl_ExpectedLeast.f k mv sv st cw cs = some (0, 0, false)) := by
  simp only [impl_ExpectedLeast.f, impl_ExpectedLeast.B, fst_eta]
  rw [drawn_eq hk h1 h2 hsh hw]
  by_cases hD : DrP mv sv st cw cs
  · have hg := hD.1.1
    have hcl := hD.2.2.1
    have hcn := hD.2.1
    simp only [hD, decide_true, Option.bind_some, Bool.not_true, cond_false]
    refine ⟨fun _ => ?_, fun h => absurd trivial h⟩
    simp only [impl_Chances_mean_at_ExpectedLeast_1.f, impl_Chances_mean_at_ExpectedLeast_1.B]
    have hrs := lc_small hk h2 hg hD.2 hD.1.2.1
    have := meanLoop (R := Int × Int × Bool) (L := fun f s i => impl_Chances_mean_at_ExpectedLeast_1.bs k f mv sv st s cs cs.length i cw cs 0 0) (E := fun s => impl_makeFrac.f k s cw.sum) hD.2 hrs (fun f s i h0 h1' hq => ?_) (fun f s i h => ?_) cs.length k 0 0 (by omega) (by omega) (by omega) (by unfold Sm2; simp)
    · exact this
    · simp only [impl_Chances_mean_at_ExpectedLeast_1.bs, impl_Chances_mean_at_ExpectedLeast_1.B3, impl_ExpectedLeast_1.f, impl_ExpectedLeast_1.B]
      rw [decide_eq_true h1', if_pos (by omega), if_pos (by omega), leastI_eq hk h2 hg hD.1.2.1 (q := cs.getD i.toNat []) (by have := (hD.2.2.2.2 _ hq).1; omega) (hD.2.2.2.2 _ hq).2.2]
      rfl
    · simp only [impl_Chances_mean_at_ExpectedLeast_1.bs, impl_Chances_mean_at_ExpectedLeast_1.B3, fst_eta]
      rw [decide_eq_false (by omega), total_eq hk (by omega) (fun x hx => by have := hD.2.2.2.1 x hx; omega)]
      rfl
  · simp only [hD, decide_false, Bool.not_false, cond_true, Option.bind_some]
    exact ⟨fun h => absurd h id, fun _ => trivial⟩

theorem elS_eq (hk : 2000000 ≤ k) (h1 : Mx mv) (h2 : Mx sv) (hsh : Sh cs) (hw : cw.length ≤ 100000) {st : Int} :
    (DrP mv sv st cw cs → spec_ExpectedLeast.f k mv sv st cw cs = impl_makeFrac.f k (Sm2 cw cs fun q => minL (wk mv sv (mv.getD st.toNat []) q)) cw.sum) ∧ (¬ DrP mv sv st cw cs → spec_ExpectedLeast.f k mv sv st cw cs = some (0, 0, false)) := by
  simp only [spec_ExpectedLeast.f, spec_ExpectedLeast.B]
  rw [startS_eq hk h1 h2 hsh hw]
  by_cases hD : DrP mv sv st cw cs
  · have hg := hD.1.1
    have hcl := hD.2.2.1
    have hcn := hD.2.1
    simp only [hD, decide_true, Option.bind_some, Bool.not_true, cond_false]
    refine ⟨fun _ => ?_, fun h => absurd trivial h⟩
    have hrs := lc_small hk h2 hg hD.2 hD.1.2.1
    have := meanLoop (R := Int × Int × Bool) (L := fun f s i => spec_ExpectedLeast.bs k f st s i mv sv cw cs 0 0) (E := fun s => impl_makeFrac.f k s cw.sum) hD.2 hrs (fun f s i h0 h1' hq => ?_) (fun f s i h => ?_) cs.length k 0 0 (by omega) (by omega) (by omega) (by unfold Sm2; simp)
    · exact this
    · simp only [spec_ExpectedLeast.bs, spec_ExpectedLeast.B5]
      rw [decide_eq_true h1', if_pos (by omega), if_pos (by omega), leastS_eq hk h2 hg hD.1.2.1 (q := cs.getD i.toNat []) (by have := (hD.2.2.2.2 _ hq).1; omega) (hD.2.2.2.2 _ hq).2.2]
      rfl
    · simp only [spec_ExpectedLeast.bs, spec_ExpectedLeast.B5, fst_eta, make_eq]
      rw [decide_eq_false (by omega), sumS_eq hk (by omega) (fun x hx => by have := hD.2.2.2.1 x hx; omega)]
      rfl
  · simp only [hD, decide_false, Bool.not_false, cond_true, Option.bind_some]
    exact ⟨fun h => absurd h id, fun _ => trivial⟩

theorem beS_eq (hk : 2000000 ≤ k) (h1 : Mx mv) (h2 : Mx sv) (hsh : Sh cs) (hw : cw.length ≤ 100000) {st : Int} :
    (DrP mv sv st cw cs → spec_BestExpected.f k mv sv st cw cs = impl_makeFrac.f k (On mv sv cw cs (cs.getD 0 []).length st []) cw.sum) ∧ (¬ DrP mv sv st cw cs → spec_BestExpected.f k mv sv st cw cs = some (0, 0, false)) := by
  simp only [spec_BestExpected.f, spec_BestExpected.B, fst_eta]
  rw [startS_eq hk h1 h2 hsh hw]
  by_cases hD : DrP mv sv st cw cs
  · have h6 := hD.2.len6
    have hcl := hD.2.2.1
    have hcn := hD.2.1
    simp only [hD, decide_true, Option.bind_some, Bool.not_true, cond_false]
    refine ⟨fun _ => ?_, fun h => absurd trivial h⟩
    rw [aheadS_eq hk hD.1.1 hsh hD.2 (cs.getD 0 []).length k st [] h6 (by simp) (by omega) hD.1.2.1.1 hD.1.2.1.2, sumS_eq hk (by omega) (fun x hx => by have := hD.2.2.2.1 x hx; omega)]
    simp only [Option.bind_some, make_eq]
  · simp only [hD, decide_false, Bool.not_false, cond_true, Option.bind_some]
    exact ⟨fun h => absurd h id, fun _ => trivial⟩

/-! the greedy algorithm -/
theorem greedy_ok (hk : 2000000 ≤ k) (h2 : Mx sv) (hg : GoodP mv sv) {a r : Int} (ha : 0 ≤ a ∧ a < (mv.length : Int)) (hr : 0 ≤ r ∧ r < (sv.length : Int)) : OK (impl_Problem_greedy.f k mv sv a r) fun b => b ∈ srv sv r := by
  simp only [impl_Problem_greedy.f, impl_Problem_greedy.B]
  rw [served_eq hk h2 hr]
  simp only [Option.bind_some]
  have hsl := hg.srvlen hr
  have hne := (hg.row hr).2.1
  have hpos := List.length_pos_iff.2 hne
  have main : ∀ (d f : Nat) (i : Nat) (x : Int), d + 1 ≤ f → i + d = (srv sv r).length → (x ∈ srv sv r ∨ (x = -1 ∧ i = 0)) →
      OK (impl_Problem_greedy.bs k f a r x (srv sv r).length i mv sv (srv sv r)) fun b => b ∈ srv sv r := by
    intro d
    induction d with
    | zero =>
      intro f i x hf hi hx
      obtain ⟨f, rfl⟩ : ∃ g, f = g + 1 := ⟨f - 1, by omega⟩
      simp only [impl_Problem_greedy.bs, impl_Problem_greedy.B3]
      refine OK.bif (fun h => by omega) fun _ => OK.ret ?_
      rcases hx with hx | ⟨_, hx⟩
      · exact hx
      · omega
    | succ d ih =>
      intro f i x hf hi hx
      obtain ⟨f, rfl⟩ : ∃ g, f = g + 1 := ⟨f - 1, by omega⟩
      simp only [impl_Problem_greedy.bs, impl_Problem_greedy.B3]
      have hmem := getD_mem (l := srv sv r) (i := (i : Int)) (d := 0) (by omega) (by omega)
      rw [w64_id (n := (i : Int) + 1) (by omega) (by omega), show (i : Int) + 1 = ((i + 1 : Nat) : Int) by omega]
      refine OK.bif (fun _ => OK.req (by omega) (OK.bif (fun _ => ih f (i + 1) _ (by omega) (by omega) (.inl hmem)) fun hx0 => ?_)) fun h => by omega
      have hx : x ∈ srv sv r := hx.resolve_right fun h => by omega
      rw [cost_eq hg ha hr hmem, cost_eq hg ha hr hx]
      simp only [Option.bind_some]
      exact OK.bif (fun _ => ih f (i + 1) _ (by omega) (by omega) (.inl hmem)) fun _ => ih f (i + 1) _ (by omega) (by omega) (.inl hx)
  exact main (srv sv r).length k 0 (-1) (by omega) (by omega) (.inr ⟨rfl, rfl⟩)

/-- a row of states that serve their requests -/
def RwP (sv : List (List Int)) (row : List Int) : Prop := ∀ i : Nat, i < row.length → row.getD i 0 ∈ srv sv i
theorem RwP.snoc {row : List Int} {b : Int} (h : RwP sv row) (hb : b ∈ srv sv row.length) : RwP sv (row ++ [b]) := by
  intro i hi
  rw [List.length_append, List.length_singleton] at hi
  by_cases e : i < row.length
  · have := h i e
    simp only [List.getD, List.getElem?_append_left e] at this ⊢
    exact this
  · have e : i = row.length := by omega
    subst e
    simpa [List.getD] using hb

theorem RwP.svd (hg : GoodP mv sv) {row : List Int} (h : RwP sv row) (hl : row.length = sv.length) : SvdP mv sv row := by
  refine ⟨by omega, fun i hi => ?_⟩
  have := hg.srv (r := (i : Int)) (by omega) (h i hi)
  exact this

theorem by_7 (hk : 2000000 ≤ k) (h2 : Mx sv) (hg : GoodP mv sv) {a n : Int} (ha : 0 ≤ a ∧ a < (mv.length : Int)) {rows : List (List Int)} (hrows : rows.length ≤ 100) {Q : List (List Int) → Prop} {z : Nat}
    (hc : ∀ f row, z ≤ f → RwP sv row → row.length = sv.length → OK ((impl_Problem_algorithmBy_at_Problem_greedy.bs k f).1 mv sv n (w64 (a + 1)) mv sv (rows ++ [row])) Q) :
    ∀ (d f : Nat) (row : List Int), z + d + 1 ≤ f → row.length + d = sv.length → RwP sv row → OK ((impl_Problem_algorithmBy_at_Problem_greedy.bs k f).2 mv sv a n a sv.length row.length mv sv rows row) Q := by
  have hsl := hg.2.2.1
  intro d
  induction d with
  | zero =>
    intro f row hf hl hrw
    obtain ⟨f, rfl⟩ : ∃ g, f = g + 1 := ⟨f - 1, by omega⟩
    simp only [impl_Problem_algorithmBy_at_Problem_greedy.bs, impl_Problem_algorithmBy_at_Problem_greedy.B7]
    exact OK.bif (fun h => by omega) fun _ => OK.req (by rw [capB_eq]; omega) (hc f row (by omega) hrw (by omega))
  | succ d ih =>
    intro f row hf hl hrw
    obtain ⟨f, rfl⟩ : ∃ g, f = g + 1 := ⟨f - 1, by omega⟩
    simp only [impl_Problem_algorithmBy_at_Problem_greedy.bs, impl_Problem_algorithmBy_at_Problem_greedy.B7]
    refine OK.bif (fun hlt => OK.bind (greedy_ok hk h2 hg ha (r := (row.length : Int)) (by omega)) fun b hb => OK.req (by rw [capB_eq]; omega) ?_) fun h => by omega
    have := ih f (row ++ [b]) (by omega) (by rw [List.length_append, List.length_singleton]; omega) (hrw.snoc hb)
    rw [List.length_append, List.length_singleton] at this
    rw [w64_id (n := (row.length : Int) + 1) (by omega) (by omega)]
    exact this

theorem greedyAlg_ok (hk : 2000000 ≤ k) (h1 : Mx mv) (h2 : Mx sv) (hg : GoodP mv sv) : OK (impl_GreedyAlgorithm.f k mv sv) fun x => AlgP mv sv x.2 := by
  have hml := hg.1
  have hsl := hg.2.2.1
  simp only [impl_GreedyAlgorithm.f, impl_GreedyAlgorithm.B]
  rw [problemI_eq hk h1 h2]
  simp only [Option.bind_some]
  refine OK.bifnd (fun h => absurd hg h) fun _ => ?_
  have main : ∀ (d f : Nat) (rows : List (List Int)), 10 * (d + 1) ≤ f → rows.length + d = mv.length → (∀ row ∈ rows, SvdP mv sv row) → OK ((impl_Problem_algorithmBy_at_Problem_greedy.bs k f).1 mv sv mv.length rows.length mv sv rows) fun x => AlgP mv sv x := by
    intro d
    induction d with
    | zero =>
      intro f rows hf hl hr
      obtain ⟨f, rfl⟩ : ∃ g, f = g + 1 := ⟨f - 1, by omega⟩
      simp only [impl_Problem_algorithmBy_at_Problem_greedy.bs, impl_Problem_algorithmBy_at_Problem_greedy.B3]
      exact OK.bif (fun h => by omega) fun _ => OK.ret ⟨by omega, hr⟩
    | succ d ih =>
      intro f rows hf hl hr
      obtain ⟨f, rfl⟩ : ∃ g, f = g + 1 := ⟨f - 1, by omega⟩
      simp only [impl_Problem_algorithmBy_at_Problem_greedy.bs, impl_Problem_algorithmBy_at_Problem_greedy.B3]
      refine OK.bif (fun _ => ?_) fun h => by omega
      refine by_7 hk h2 hg (by omega) (by omega) (z := 10 * (d + 1)) (fun f row hf hrw hrl => ?_) sv.length f [] (by omega) (by simp) (fun i hi => by simp at hi)
      have := ih f (rows ++ [row]) hf (by rw [List.length_append, List.length_singleton]; omega) fun x hx => (List.mem_append.1 hx).elim (hr x) fun h => by rw [List.mem_singleton.1 h]; exact hrw.svd hg hrl
      rw [List.length_append, List.length_singleton] at this
      rw [w64_id (n := (rows.length : Int) + 1) (by omega) (by omega)]
      exact this
  refine OK.bind (P := fun x => AlgP mv sv x) ?_ fun x hx => OK.ret hx
  simp only [impl_Problem_algorithmBy_at_Problem_greedy.f, impl_Problem_algorithmBy_at_Problem_greedy.B]
  exact main mv.length k [] (by omega) (by simp) (fun x hx => by simp at hx)

theorem sm_On (hg : GoodP mv sv) (hc : ChP sv cw cs) (hA : AlgP mv sv nx) {st : Int} (hst : 0 ≤ st ∧ st < (mv.length : Int)) : On mv sv cw cs (cs.getD 0 []).length st [] ≤ Sm2 cw cs fun q => rc mv sv nx q st := by
  have h := On_alg hg hc hA (cs.getD 0 []).length st [] (by simp) hst.1 hst.2
  simpa [Sm2] using h

theorem lc_On (hg : GoodP mv sv) (hc : ChP sv cw cs) {st : Int} (hst : 0 ≤ st ∧ st < (mv.length : Int)) : (Sm2 cw cs fun q => minL (wk mv sv (mv.getD st.toNat []) q)) ≤ On mv sv cw cs (cs.getD 0 []).length st [] := by
  rw [On_pth hg hc _ st [] (by simp) hst.1 hst.2]
  unfold Sm2
  refine sum_le _ fun p hp => ?_
  have hq := hc.2.2.2 p.2 (List.of_mem_zip hp).2
  have hw := hc.2.2.1 p.1 (List.of_mem_zip hp).1
  rw [List.length_nil, List.take_zero, List.drop_zero, if_pos rfl]
  have hsq := hg.sq.row hst.1 hst.2
  have h := wk_path hg hc p.2 st [] 0 99 (mv.getD st.toNat []) hq.1 hq.2.2 hst ⟨by omega, fun x hx => by
    obtain ⟨t, ht, rfl⟩ := List.getElem_of_mem hx
    have := hg.mvb hst (b := (t : Int)) (by omega)
    have e : ce mv st t = (mv.getD st.toNat [])[t] := by
      show (mv.getD st.toNat []).getD (t : Int).toNat 0 = _
      rw [Int.toNat_natCast]
      exact getD_get ht
    rw [← e]; exact this⟩ fun t h0 h1 => by
      have e : ce mv st t = (mv.getD st.toNat []).getD t.toNat 0 := rfl
      omega
  exact Int.mul_le_mul_of_nonneg_left (show minL (wk mv sv (mv.getD st.toNat []) p.2) ≤ _ by omega) (by omega)
end

open Classical in
theorem FnChances_pure (code : List Int) (hb : ∀ x ∈ code, 0 ≤ x ∧ x < 256) : ∃ k, laws_FnChances.f k code = some true := by
  obtain ⟨k, hk⟩ : ∃ k : Nat, 2000000 ≤ k := ⟨2000000, Nat.le_refl _⟩
  refine ⟨k, OK.some ?_⟩
  simp only [laws_FnChances.f, laws_FnChances.B, laws_vBig.f, laws_vBig.B, Option.bind_some]
  refine OK.bif (fun _ => OK.ret rfl) fun hbig => ?_
  refine OK.bind (drawCh_ok hb hk) ?_
  rintro ⟨mv0, sv0, cw0, cs0⟩ ⟨p1, p2, p3, p4⟩
  dsimp only at p1 p2 p3 p4 ⊢
  have eCh : ∃ v, impl_IsChances.f k mv0 sv0 cw0 cs0 = some v ∧ spec_IsChances.f k mv0 sv0 cw0 cs0 = some v := by
    simp only [impl_IsChances.f, impl_IsChances.B, spec_IsChances.f, spec_IsChances.B]
    rw [problemI_eq hk p1 p2, problemS_eq hk p1 p2]
    by_cases hg : GoodP mv0 sv0
    · rw [chances_eq hk p2 p4 p3, chancesS_eq hk p1 p2 p4 p3]
      simp only [hg, decide_true, Option.bind_some, Bool.not_true, cond_false, true_and]
      exact ⟨_, rfl, rfl⟩
    · simp only [hg, decide_false, Option.bind_some, Bool.not_false, cond_true]
      exact ⟨_, rfl, rfl⟩
  obtain ⟨v0, e1, e2⟩ := eCh
  rw [e1, e2]
  simp only [Option.bind_some]
  refine OK.bind (vCut_ok hb (by omega)) fun code2 hb2 => ?_
  refine OK.bind (drawEC_ok hb2 hk) ?_
  rintro ⟨mv, sv, nx, st, cw, cs⟩ ⟨q1, q2, q3, q4, q5⟩
  dsimp only at q1 q2 q3 q4 q5 ⊢
  by_cases hD : DrP mv sv st cw cs
  · have hg := hD.1.1
    have hst := hD.1.2.1
    have hT := cwNn hD.2
    have hO := On_bd hg hD.2 (cs.getD 0 []).length st [] hst.1 hst.2
    have hB := OnB_bd hD.2.len6
    have hLb := Sm2_bd hD.2 (lc_small hk q2 hg hD.2 hst)
    have hLO := lc_On hg hD.2 hst
    rw [(elI_eq hk q1 q2 q5 q4).1 hD, (elS_eq hk q1 q2 q5 q4).1 hD, (bestE_eq hk q1 q2 q5 q4).1 hD, (beS_eq hk q1 q2 q5 q4).1 hD]
    obtain ⟨l, el, l1, l2, l3, l4⟩ := make_full hk (a := Sm2 cw cs fun q => minL (wk mv sv (mv.getD st.toNat []) q)) (b := cw.sum) (by omega) (by omega)
    obtain ⟨b, eb, b1, b2, b3, b4⟩ := make_full hk (a := On mv sv cw cs (cs.getD 0 []).length st []) (b := cw.sum) (by omega) (by omega)
    -- the algorithm that was drawn
    have eEC : ∃ v : Int × Int × Bool, impl_ExpectedCost.f k mv sv nx st cw cs = some v ∧ spec_ExpectedCost.f k mv sv nx st cw cs = some v ∧ (v.2.2 = true → b.1 * v.2.1 ≤ v.1 * b.2.1 ∧ (0 ≤ v.1 ∧ v.1 ≤ 2000000) ∧ (1 ≤ v.2.1 ∧ v.2.1 ≤ 108)) := by
      by_cases hA : AlgP mv sv nx
      · have hR := Sm2_bd hD.2 (rc_small hg hD.2 hA hst)
        obtain ⟨y, ey, y1, y2, y3, y4⟩ := make_full hk (a := Sm2 cw cs fun q => rc mv sv nx q st) (b := cw.sum) (by omega) (by omega)
        refine ⟨y, ((ecI_eq hk q1 q2 q5 q4 q3).1 ⟨hD, hA⟩).trans ey, ((ecS_eq hk q1 q2 q5 q4 q3).1 ⟨hD, hA⟩).trans ey, fun _ => ⟨?_, by omega, by omega⟩⟩
        exact frac_le b2 y2 hT.2 hT.2 b4.1 y4.1 (Int.mul_le_mul_of_nonneg_right (sm_On hg hD.2 hA hst) (by omega))
      · exact ⟨_, (ecI_eq hk q1 q2 q5 q4 q3).2 fun h => hA h.2, (ecS_eq hk q1 q2 q5 q4 q3).2 fun h => hA h.2, fun h => by simp at h⟩
    obtain ⟨v, ev1, ev2, hv⟩ := eEC
    rw [ev1, ev2, el, eb]
    simp only [Option.bind_some, decide_true, Bool.not_true, cond_true, cond_false, b1]
    refine OK.bind (greedyAlg_ok hk q1 q2 hg) fun g hA => ?_
    have hR := Sm2_bd hD.2 (rc_small hg hD.2 hA hst)
    obtain ⟨y, ey, y1, y2, y3, y4⟩ := make_full hk (a := Sm2 cw cs fun q => rc mv sv g.2 q st) (b := cw.sum) (by omega) (by omega)
    have hz : g.2.length ≤ 1000 ∧ ∀ row ∈ g.2, row.length ≤ 1000 := by
      have hml := hg.1
      have hsl := hg.2.2.1
      have := hA.1
      exact ⟨by omega, fun row hr => by have := (hA.2 row hr).1; omega⟩
    rw [(ecI_eq hk q1 q2 q5 q4 hz).1 ⟨hD, hA⟩, ey]
    simp only [Option.bind_some, y1, cond_true, laws_vAtMost.f, laws_vAtMost.B]
    have f1 := frac_le l2 b2 hT.2 hT.2 l4.1 b4.1 (Int.mul_le_mul_of_nonneg_right hLO (by omega))
    have f2 := frac_le b2 y2 hT.2 hT.2 b4.1 y4.1 (Int.mul_le_mul_of_nonneg_right (sm_On hg hD.2 hA hst) (by omega))
    have m1 := mulbd (A := 2000000) (B := 108) (show 0 ≤ l.1 ∧ l.1 ≤ 2000000 by omega) (show 0 ≤ b.2.1 ∧ b.2.1 ≤ 108 by omega)
    have m2 := mulbd (A := 80000000) (B := 108) (show 0 ≤ b.1 ∧ b.1 ≤ 80000000 by omega) (show 0 ≤ l.2.1 ∧ l.2.1 ≤ 108 by omega)
    have m3 := mulbd (A := 80000000) (B := 108) (show 0 ≤ b.1 ∧ b.1 ≤ 80000000 by omega) (show 0 ≤ y.2.1 ∧ y.2.1 ≤ 108 by omega)
    have m4 := mulbd (A := 2000000) (B := 108) (show 0 ≤ y.1 ∧ y.1 ≤ 2000000 by omega) (show 0 ≤ b.2.1 ∧ b.2.1 ≤ 108 by omega)
    rw [w64_id (n := l.1 * b.2.1) (by omega) (by omega), w64_id (n := b.1 * l.2.1) (by omega) (by omega), w64_id (n := b.1 * y.2.1) (by omega) (by omega), w64_id (n := y.1 * b.2.1) (by omega) (by omega)]
    rw [decide_eq_true f1, decide_eq_true f2]
    simp only [cond_true]
    refine OK.bifn (fun _ => OK.ret rfl) fun hv1 => OK.ret ?_
    obtain ⟨f3, v2, v3⟩ := hv hv1
    have m5 := mulbd (A := 80000000) (B := 108) (show 0 ≤ b.1 ∧ b.1 ≤ 80000000 by omega) (show 0 ≤ v.2.1 ∧ v.2.1 ≤ 108 by omega)
    have m6 := mulbd (A := 2000000) (B := 108) v2 (show 0 ≤ b.2.1 ∧ b.2.1 ≤ 108 by omega)
    rw [w64_id (n := b.1 * v.2.1) (by omega) (by omega), w64_id (n := v.1 * b.2.1) (by omega) (by omega)]
    exact decide_eq_true f3
  · rw [(ecI_eq hk q1 q2 q5 q4 q3).2 fun h => hD h.1, (ecS_eq hk q1 q2 q5 q4 q3).2 fun h => hD h.1, (elI_eq hk q1 q2 q5 q4).2 hD, (elS_eq hk q1 q2 q5 q4).2 hD, (bestE_eq hk q1 q2 q5 q4).2 hD, (beS_eq hk q1 q2 q5 q4).2 hD]
    simp only [Option.bind_some, decide_true, Bool.not_true, Bool.not_false, cond_true, cond_false]
    exact OK.ret rfl
end Go.Proofs.YtobfbgmglopdhaaGreat
