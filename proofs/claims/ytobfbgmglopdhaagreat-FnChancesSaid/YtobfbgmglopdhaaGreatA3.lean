/- Proved: calls, copies, regions in any order and whole functions follow that evaluator, so that what it answers is what a call answers; no condition beyond those that each theorem states. -/
import Derived.Test.YtobfbgmglopdhaaGreatA2
import Derived.Orders
import Derived.Below
set_option linter.unusedVariables false
set_option linter.unusedSimpArgs false
namespace Ab
open Go

mutual
def tyP : Pat → List Ty → Option (List Ty)
  | .h t, t' :: r => if t' = t then some r else none
  | .h _, [] => none
  | .agg ps, r => tyPs ps r
  | .tup ps, r => tyPs ps r
  | .rp ps, r => tyPs ps r
  | .fn _ fs cs, r => match tyPs fs r with
    | some r => tyPs cs r
    | none => none
  | .p _, r => some r
  | .own _ _, r => some r
  | .ownm _ _, r => some r
def tyPs : List Pat → List Ty → Option (List Ty)
  | [], r => some r
  | p :: ps, r => match tyP p r with
    | some r => tyPs ps r
    | none => none
end
def tyO : List OPat → List Ty → Option (List Ty)
  | [], r => some r
  | .box ps :: os, r => match tyPs ps r with
    | some r => tyO os r
    | none => none
  | .buf t :: os, t' :: r => if t' = .list t then tyO os r else none
  | .mat t :: os, t' :: r => if t' = .list (.list t) then tyO os r else none
  | .buf _ :: _, [] => none
  | .mat _ :: _, [] => none
  | .dead :: os, r => tyO os r

def noPair : Ty → Bool
  | .pair _ _ => false
  | _ => true
/-- a matrix behind the call was one before it -/
def outsOk : List OPat → List OPat → Bool
  | .mat _ :: a, _ :: b => outsOk a b
  | _ :: _, .mat _ :: _ => false
  | _ :: a, _ :: b => outsOk a b
  | _, _ => true
def entTy (ent : Ent) (rs : List Ty) : Bool :=
  rs.all noPair && outsOk ent.objs ent.outs && (match tyP ent.res rs with
    | some r => match tyO ent.outs r with
      | some [] => true
      | _ => false
    | none => false)

def Vs (ys : List V) : Prop := ∀ y ∈ ys, ∃ (t : Ty) (d : t.D), y = .v t d
def TyV : List Ty → List V → Prop
  | [], [] => True
  | t :: ts, y :: ys => (∃ d : t.D, y = .v t d) ∧ TyV ts ys
  | _, _ => False

theorem TyV_encL : ∀ (rs : List Ty) (r : PD rs), rs.all noPair = true → TyV rs (encL rs r)
  | [], _, _ => trivial
  | [t], x, h => by
    simp only [List.all_cons, List.all_nil, Bool.and_true] at h
    cases t <;> simp only [encL, cellsOf, TyV] <;> first | exact ⟨⟨_, rfl⟩, trivial⟩ | simp [noPair] at h
  | t :: u :: ts, (x, y), h => by
    simp only [List.all_cons, Bool.and_eq_true] at h
    have ih := TyV_encL (u :: ts) y (by simp [h.2])
    cases t <;> simp only [encL, cellsOf, List.cons_append, List.nil_append] <;> first | exact ⟨⟨_, rfl⟩, ih⟩ | simp [noPair] at h

section
variable {P : Program} {w : World} {A1 A2 : Am} {μ1 μ2 : Mu} {I1 I2 : Nat → Prop} {g1 g2 : Nat → Nat}

theorem RT_flat {w w' : World} {A A' : Am} : ∀ (t : Ty), flatTy t = true → ∀ (x : t.D) (us : List Value), RT w A t x us → RT w' A' t x us
  | .int _, _, _, _, h => h
  | .bool, _, _, _, h => h
  | .str, _, _, _, h => h
  | .list _, hf, _, _, _ => by simp [flatTy] at hf
  | .pair t u, hf, x, us, h => by
    simp only [flatTy, Bool.and_eq_true] at hf
    obtain ⟨a, c, e, h1, h2⟩ := h
    exact ⟨a, c, e, RT_flat t hf.1 _ _ h1, RT_flat u hf.2 _ _ h2⟩

theorem RT_fl {fl : Bool} (hA : fl = false → ∀ b o, A1 b o → A2 b o) {t : Ty} (hf : fl = true → flatTy t = true) {x : t.D} {us : List Value} (h : RT w A1 t x us) : RT w A2 t x us := by
  cases fl with
  | true => exact RT_flat t (hf rfl) _ _ h
  | false => exact RT_mono (fun b o ha => ⟨hA rfl b o ha, rfl⟩) _ _ _ h

mutual
theorem plug_ren {fl : Bool} (hA : fl = false → ∀ b o, A1 b o → A2 b o) (hids : ∀ i, I1 (g1 i) → I2 (g2 i)) (hloc : ∀ i L, I1 (g1 i) → μ2 (g2 i) = some L → ∃ L1, μ1 (g1 i) = some L1 ∧ L.b = L1.b ∧ L.n = L1.n ∧ L.z = L1.z) :
    ∀ (p : Pat) {ts ts' : List Ty} {ys r : List V} {v : V}, (fl = true → flatP p = true) → tyP p ts = some ts' → TyV ts ys → plug g1 p ys = some (v, r) →
      ∃ v2, plug g2 p ys = some (v2, r) ∧ TyV ts' r ∧ ∀ x, RV w A1 μ1 I1 x v → RV w A2 μ2 I2 x v2
  | .h t, ts, ts', ys, r, v, hf, ht, hv, hp => by
    cases ys with
    | nil => simp [plug] at hp
    | cons y ys =>
      cases ts with
      | nil => simp [tyP] at ht
      | cons t' ts =>
        simp only [plug, Option.some.injEq, Prod.mk.injEq] at hp
        obtain ⟨rfl, rfl⟩ := hp
        simp only [tyP] at ht
        split at ht
        · rename_i e
          subst e
          obtain rfl := Option.some.inj ht
          obtain ⟨⟨d, rfl⟩, h2⟩ := hv
          exact ⟨_, rfl, h2, fun x hx => .v (RT_fl hA hf (rv_v hx))⟩
        · simp at ht
  | .agg ps, ts, ts', ys, r, v, hf, ht, hv, hp => by
    simp only [plug] at hp
    split at hp
    · rename_i cs r' h1
      simp only [Option.some.injEq, Prod.mk.injEq] at hp
      obtain ⟨rfl, rfl⟩ := hp
      obtain ⟨v2, q1, q2, q3⟩ := plugs_ren hA hids hloc ps (fun e => by have := hf e; simpa only [flatP] using this) (by simpa only [tyP] using ht) hv h1
      exact ⟨.agg v2, by simp only [plug, q1], q2, fun x hx => by cases hx with | agg hs => exact .agg (q3 _ hs)⟩
    · simp at hp
  | .tup ps, ts, ts', ys, r, v, hf, ht, hv, hp => by
    simp only [plug] at hp
    split at hp
    · rename_i cs r' h1
      simp only [Option.some.injEq, Prod.mk.injEq] at hp
      obtain ⟨rfl, rfl⟩ := hp
      obtain ⟨v2, q1, q2, q3⟩ := plugs_ren hA hids hloc ps (fun e => by have := hf e; simpa only [flatP] using this) (by simpa only [tyP] using ht) hv h1
      exact ⟨.tup v2, by simp only [plug, q1], q2, fun x hx => by cases hx with | tup hs => exact .tup (q3 _ hs)⟩
    · simp at hp
  | .rp ps, ts, ts', ys, r, v, hf, ht, hv, hp => by
    have hfl : fl = false := by
      cases fl with
      | true => have := hf rfl; simp [flatP] at this
      | false => rfl
    subst hfl
    simp only [plug] at hp
    split at hp
    · rename_i cs r' h1
      simp only [Option.some.injEq, Prod.mk.injEq] at hp
      obtain ⟨rfl, rfl⟩ := hp
      obtain ⟨v2, q1, q2, q3⟩ := plugs_ren hA hids hloc ps (fun e => by simp at e) (by simpa only [tyP] using ht) hv h1
      exact ⟨.rp v2, by simp only [plug, q1], q2, fun x hx => by cases hx with | rp hs hat hr => exact .rp hs (fun k hk => ⟨(hat k hk).1, hA rfl _ _ (hat k hk).2⟩) (q3 _ hr)⟩
    · simp at hp
  | .fn f fs cs, ts, ts', ys, r, v, hf, ht, hv, hp => by
    have hfl : fl = false := by
      cases fl with
      | true => have := hf rfl; simp [flatP] at this
      | false => rfl
    subst hfl
    simp only [plug] at hp
    split at hp
    · rename_i a r' h1
      split at hp
      · rename_i b r'' h2
        simp only [Option.some.injEq, Prod.mk.injEq] at hp
        obtain ⟨rfl, rfl⟩ := hp
        simp only [tyP] at ht
        split at ht
        · rename_i ts1 ht1
          obtain ⟨v2, q1, q2, q3⟩ := plugs_ren hA hids hloc fs (fun e => by simp at e) ht1 hv h1
          obtain ⟨v3, r1, r2, r3⟩ := plugs_ren hA hids hloc cs (fun e => by simp at e) ht q2 h2
          exact ⟨.fn f v2 v3, by simp only [plug, q1, r1], r2, fun x hx => by cases hx with | fn hs hs' => exact .fn (q3 _ hs) (r3 _ hs')⟩
        · simp at ht
      · simp at hp
    · simp at hp
  | .p i, ts, ts', ys, r, v, hf, ht, hv, hp => by
    simp only [plug, Option.some.injEq, Prod.mk.injEq] at hp
    obtain ⟨rfl, rfl⟩ := hp
    simp only [tyP, Option.some.injEq] at ht
    subst ht
    refine ⟨_, rfl, hv, fun x hx => ?_⟩
    cases hx with
    | p hid hL =>
      refine .p (hids i hid) fun L hL2 => ?_
      obtain ⟨L1, s0, s1, s2, s3⟩ := hloc i L hid hL2
      obtain ⟨t1, t2, t3⟩ := hL L1 s0
      exact ⟨by omega, by omega, by rw [s1]; exact t3⟩
  | .own i t, ts, ts', ys, r, v, hf, ht, hv, hp => by
    simp only [plug, Option.some.injEq, Prod.mk.injEq] at hp
    obtain ⟨rfl, rfl⟩ := hp
    simp only [tyP, Option.some.injEq] at ht
    subst ht
    refine ⟨_, rfl, hv, fun x hx => ?_⟩
    cases hx with
    | msF hid hn hL =>
      refine .msF (hids i hid) hn fun L hL2 => ?_
      obtain ⟨L1, s0, s1, s2, s3⟩ := hloc i L hid hL2
      obtain ⟨t1, t2, t3⟩ := hL L1 s0
      exact ⟨by omega, by omega, by rw [s1]; exact t3⟩
  | .ownm i t, ts, ts', ys, r, v, hf, ht, hv, hp => by
    simp only [plug, Option.some.injEq, Prod.mk.injEq] at hp
    obtain ⟨rfl, rfl⟩ := hp
    simp only [tyP, Option.some.injEq] at ht
    subst ht
    refine ⟨_, rfl, hv, fun x hx => ?_⟩
    cases hx with
    | msF hid hn hL =>
      refine .msF (hids i hid) hn fun L hL2 => ?_
      obtain ⟨L1, s0, s1, s2, s3⟩ := hloc i L hid hL2
      obtain ⟨t1, t2, t3⟩ := hL L1 s0
      exact ⟨by omega, by omega, by rw [s1]; exact t3⟩
theorem plugs_ren {fl : Bool} (hA : fl = false → ∀ b o, A1 b o → A2 b o) (hids : ∀ i, I1 (g1 i) → I2 (g2 i)) (hloc : ∀ i L, I1 (g1 i) → μ2 (g2 i) = some L → ∃ L1, μ1 (g1 i) = some L1 ∧ L.b = L1.b ∧ L.n = L1.n ∧ L.z = L1.z) :
    ∀ (ps : List Pat) {ts ts' : List Ty} {ys r : List V} {vs : List V}, (fl = true → flatPs ps = true) → tyPs ps ts = some ts' → TyV ts ys → plugs g1 ps ys = some (vs, r) →
      ∃ v2, plugs g2 ps ys = some (v2, r) ∧ TyV ts' r ∧ ∀ xs, RVs w A1 μ1 I1 xs vs → RVs w A2 μ2 I2 xs v2
  | [], ts, ts', ys, r, vs, hf, ht, hv, hp => by
    simp only [plugs, Option.some.injEq, Prod.mk.injEq] at hp
    obtain ⟨rfl, rfl⟩ := hp
    simp only [tyPs, Option.some.injEq] at ht
    subst ht
    exact ⟨[], rfl, hv, fun xs hx => by cases hx; exact .nil⟩
  | p :: ps, ts, ts', ys, r, vs, hf, ht, hv, hp => by
    simp only [plugs] at hp
    split at hp
    · rename_i c r' h1
      split at hp
      · rename_i cs r'' h2
        simp only [Option.some.injEq, Prod.mk.injEq] at hp
        obtain ⟨rfl, rfl⟩ := hp
        simp only [tyPs] at ht
        split at ht
        · rename_i ts1 ht1
          obtain ⟨v2, q1, q2, q3⟩ := plug_ren hA hids hloc p (fun e => by have := hf e; simp only [flatPs, Bool.and_eq_true] at this; exact this.1) ht1 hv h1
          obtain ⟨v3, r1, r2, r3⟩ := plugs_ren hA hids hloc ps (fun e => by have := hf e; simp only [flatPs, Bool.and_eq_true] at this; exact this.2) ht q2 h2
          exact ⟨v2 :: v3, by simp only [plugs, q1, r1], r2, fun xs hx => by cases hx with | cons a b => exact .cons (q3 _ a) (r3 _ b)⟩
        · simp at ht
      · simp at hp
    · simp at hp
end

/-- an object under another name -/
def ORen (w : World) (A1 : Am) (μ1 : Mu) (I1 : Nat → Prop) (A2 : Am) (μ2 : Mu) (I2 : Nat → Prop) (vv : Nat) : OPat → Option Obj → Option Obj → Prop
  | .dead, o1, o2 => o1 = none ∧ o2 = none
  | op, o1, o2 => ∃ a b, o1 = some a ∧ o2 = some b ∧ (∀ L k off, ¬ appOk L a k off) ∧
    ∀ L1 ver, ((∃ t, op = .mat t) → ver = vv) → ObjOK w A1 μ1 I1 L1 a → ObjOK w A2 μ2 I2 { L1 with ver := ver } b ∧ ownO { L1 with ver := ver } b = ownO L1 a

theorem RowOK_fl {fl : Bool} (hA : fl = false → ∀ b o, A1 b o → A2 b o) {t : Ty} (hf : fl = true → flatTy t = true) {xs : List t.D} {x : Value} (h : RowOK w A1 t xs x) : RowOK w A2 t xs x := by
  obtain ⟨a, n, cap, h1, h2, h3, h4⟩ := h
  refine ⟨a, n, cap, h1, h2, h3, h4.imp (fun x => x) fun ⟨rb, q1, q2, q3, q4⟩ => ⟨rb, q1, q2, q3, fun k hk => ?_⟩⟩
  obtain ⟨v, r1, r2⟩ := q4 k hk
  exact ⟨v, r1, RT_fl hA hf r2⟩

theorem asL_eq {t : Ty} {y : V} {l : List t.D} {d : (Ty.list t).D} (hy : y = .v (.list t) d) (h : asL t y = some l) : l = d := by
  subst hy; simp [asL, dec1, decT] at h; exact h.symm

theorem plugO_ren {fl : Bool} (hA : fl = false → ∀ b o, A1 b o → A2 b o) {vv1 vv2 : Nat → Nat} (hids : ∀ i, I1 (g1 i) → I2 (g2 i)) (hloc : ∀ i L, I1 (g1 i) → μ2 (g2 i) = some L → ∃ L1, μ1 (g1 i) = some L1 ∧ L.b = L1.b ∧ L.n = L1.n ∧ L.z = L1.z) :
    ∀ (os : List OPat) (i : Nat) {ts : List Ty} {ys : List V} {u1 : List (Nat × Option Obj)}, (fl = true → os.all flatO = true) → tyO os ts = some [] → TyV ts ys → plugO g1 vv1 i os ys = some u1 →
      ∃ u2, plugO g2 vv2 i os ys = some u2 ∧ u1.length = os.length ∧ u2.length = os.length ∧ ∀ k op, os[k]? = some op → ∃ o1 o2, u1[k]? = some (g1 (i + k), o1) ∧ u2[k]? = some (g2 (i + k), o2) ∧ ORen w A1 μ1 I1 A2 μ2 I2 (vv2 (i + k)) op o1 o2
  | [], i, ts, ys, u1, hf, ht, hv, hp => by
    simp only [tyO, Option.some.injEq] at ht
    subst ht
    cases ys with
    | nil =>
      simp only [plugO, Option.some.injEq] at hp
      subst hp
      exact ⟨[], rfl, rfl, rfl, fun k op hk => by simp at hk⟩
    | cons y ys => simp [TyV] at hv
  | o :: os, i, ts, ys, u1, hf, ht, hv, hp => by
    have hf1 : fl = true → flatO o = true := fun e => by have := hf e; simp only [List.all_cons, Bool.and_eq_true] at this; exact this.1
    have hf2 : fl = true → os.all flatO = true := fun e => by have := hf e; simp only [List.all_cons, Bool.and_eq_true] at this; exact this.2
    have fin : ∀ {ts' ys' u1' o1 o2}, tyO os ts' = some [] → TyV ts' ys' → plugO g1 vv1 (i + 1) os ys' = some u1' → u1 = (g1 i, o1) :: u1' → ORen w A1 μ1 I1 A2 μ2 I2 (vv2 i) o o1 o2 →
        (∀ u2', plugO g2 vv2 (i + 1) os ys' = some u2' → plugO g2 vv2 i (o :: os) ys = some ((g2 i, o2) :: u2')) →
        ∃ u2, plugO g2 vv2 i (o :: os) ys = some u2 ∧ u1.length = (o :: os).length ∧ u2.length = (o :: os).length ∧ ∀ k op, (o :: os)[k]? = some op → ∃ o1 o2, u1[k]? = some (g1 (i + k), o1) ∧ u2[k]? = some (g2 (i + k), o2) ∧ ORen w A1 μ1 I1 A2 μ2 I2 (vv2 (i + k)) op o1 o2 := by
      intro ts' ys' u1' o1 o2 ht' hv' hp' e ho hu
      obtain ⟨u2, q1, q2, q3, q4⟩ := plugO_ren hA (vv1 := vv1) (vv2 := vv2) hids hloc os (i + 1) hf2 ht' hv' hp'
      refine ⟨_, hu u2 q1, by simp [e, q2], by simp [q3], fun k op hk => ?_⟩
      cases k with
      | zero =>
        simp only [List.getElem?_cons_zero, Option.some.injEq] at hk
        subst hk
        exact ⟨o1, o2, by simp [e], by simp, by simpa using ho⟩
      | succ k =>
        obtain ⟨o1', o2', r1, r2, r3⟩ := q4 k op (by simpa using hk)
        have ek : i + 1 + k = i + (k + 1) := by omega
        rw [ek] at r1 r2 r3
        exact ⟨o1', o2', by simp [e, r1], by simp [r2], r3⟩
    cases o with
    | dead =>
      simp only [plugO] at hp
      split at hp
      · rename_i u h1
        obtain rfl := Option.some.inj hp
        exact fin (by simpa only [tyO] using ht) hv h1 rfl (show ORen w A1 μ1 I1 A2 μ2 I2 (vv2 i) .dead none none from ⟨rfl, rfl⟩) fun u2' hu => by simp only [plugO, hu]
      · simp at hp
    | box ps =>
      simp only [plugO] at hp
      split at hp
      · rename_i cs ys' h1
        split at hp
        · rename_i u h2
          obtain rfl := Option.some.inj hp
          simp only [tyO] at ht
          split at ht
          · rename_i ts1 ht1
            obtain ⟨v2, q1, q2, q3⟩ := plugs_ren hA hids hloc ps (fun e => by simpa only [flatO] using hf1 e) ht1 hv h1
            refine fin ht q2 h2 rfl (show ORen w A1 μ1 I1 A2 μ2 I2 (vv2 i) (.box ps) (some (.box cs)) (some (.box v2)) from ⟨_, _, rfl, rfl, fun _ _ _ h => h, fun L1 ver _ hob => ?_⟩) fun u2' hu => by simp only [plugO, q1, hu]
            obtain ⟨p1, p2, p3, b, us, p4, p5, p6, p7⟩ := hob
            exact ⟨⟨p1, p2, p3, b, us, p4, p5, p6, q3 _ p7⟩, rfl⟩
          · simp at ht
        · simp at hp
      · simp at hp
    | buf t =>
      cases ys with
      | nil => simp [plugO] at hp
      | cons y ys =>
        cases ts with
        | nil => simp [TyV] at hv
        | cons t' ts =>
          simp only [tyO] at ht
          split at ht
          · rename_i e
            subst e
            obtain ⟨⟨d, hy⟩, hv⟩ := hv
            simp only [plugO] at hp
            split at hp
            · rename_i l u h1 h2
              obtain rfl := Option.some.inj hp
              refine fin ht hv h2 rfl (show ORen w A1 μ1 I1 A2 μ2 I2 (vv2 i) (.buf t) (some (.buf t l)) (some (.buf t l)) from ⟨_, _, rfl, rfl, fun _ _ _ h => h, fun L1 ver _ hob => ?_⟩) fun u2' hu => by simp only [plugO, h1, hu]
              obtain ⟨p1, p2, p3, p4⟩ := hob
              refine ⟨⟨p1, p2, p3, p4.imp (fun x => x) fun ⟨b, r1, r2, r3⟩ => ⟨b, r1, r2, fun k hk => ?_⟩⟩, rfl⟩
              obtain ⟨vs, s1, s2, s3⟩ := r3 k hk
              exact ⟨vs, s1, s2, RT_fl hA (fun e => by simpa only [flatO] using hf1 e) s3⟩
            · simp at hp
          · simp at ht
    | mat t =>
      cases ys with
      | nil => simp [plugO] at hp
      | cons y ys =>
        cases ts with
        | nil => simp [TyV] at hv
        | cons t' ts =>
          simp only [tyO] at ht
          split at ht
          · rename_i e
            subst e
            obtain ⟨⟨d, hy⟩, hv⟩ := hv
            simp only [plugO] at hp
            split at hp
            · rename_i l u h1 h2
              obtain rfl := Option.some.inj hp
              refine fin ht hv h2 rfl (show ORen w A1 μ1 I1 A2 μ2 I2 (vv2 i) (.mat t) (some (.mat t l (vv1 i))) (some (.mat t l (vv2 i))) from ⟨_, _, rfl, rfl, fun _ _ _ h => h, fun L1 ver hver hob => ?_⟩) fun u2' hu => by simp only [plugO, h1, hu]
              obtain ⟨p1, p2, p3, p4, p5, p6, p7⟩ := hob
              refine ⟨⟨p1, p2, p3, hver ⟨t, rfl⟩, p5, p6, fun k hk hne => ?_⟩, rfl⟩
              obtain ⟨x, r1, r2⟩ := p7 k hk hne
              exact ⟨x, r1, RowOK_fl hA (fun e => by simpa only [flatO] using hf1 e) r2⟩
            · simp at hp
          · simp at ht

end
end Ab
namespace Ab
open Go

/-- which of n canonical ids stands behind an id -/
def inv (g : Nat → Nat) (n id : Nat) : Option Nat := (List.range n).find? fun i => Nat.beq (g i) id

theorem inv_some {g : Nat → Nat} {n id i : Nat} (h : inv g n id = some i) : i < n ∧ g i = id := by
  have h1 := List.mem_of_find?_eq_some h
  have h2 := List.find?_some h
  exact ⟨List.mem_range.1 h1, Nat.eq_of_beq_eq_true h2⟩
theorem inv_none {g : Nat → Nat} {n id : Nat} (h : inv g n id = none) : ∀ i, i < n → g i ≠ id := fun i hi e => by
  have := List.find?_eq_none.1 h i (List.mem_range.2 hi)
  simp [e] at this
theorem inv_of {g : Nat → Nat} {n i : Nat} (inj : ∀ i j, i < n → j < n → g i = g j → i = j) (hi : i < n) : inv g n (g i) = some i := by
  cases h : inv g n (g i) with
  | none => exact absurd rfl (inv_none h i hi)
  | some j => obtain ⟨h1, h2⟩ := inv_some h; rw [inj j i h1 hi h2]

def callMu (μ0 μ' : Mu) (g vw : Nat → Nat) (n : Nat) : Mu := fun id => match inv g n id with
  | some i => (μ' i).map fun L => { L with ver := vw i }
  | none => μ0 id

def callI (I : Nat → Prop) (g : Nat → Nat) (n : Nat) : Nat → Prop := fun id => I id ∨ ∃ i, i < n ∧ g i = id

section
variable {P : Program} {w w' : World} {A0 An Ac A' : Am} {μ0 μc μ' : Mu} {I : Nat → Prop} {h0 hc h' hn : Hf} {m n : Nat} {g vw : Nat → Nat}

theorem callMu_at (inj : ∀ i j, i < n → j < n → g i = g j → i = j) {i : Nat} (hi : i < n) : callMu μ0 μ' g vw n (g i) = (μ' i).map fun L => { L with ver := vw i } := by
  simp only [callMu, inv_of inj hi]

theorem callMu_out {id : Nat} (h : ∀ i, i < n → g i ≠ id) : callMu μ0 μ' g vw n id = μ0 id := by
  simp only [callMu]
  split
  · rename_i i hi; obtain ⟨h1, h2⟩ := inv_some hi; exact absurd h2 (h i h1)
  · rfl

theorem call_step (W0 : WR w A0 μ0 I h0) (W' : WR w' A' μ' (fun i => i < n) h') (E : EvF m w Ac μc hc w' A' μ' h')
    (inj : ∀ i j, i < n → j < n → g i = g j → i = j)
    (old : ∀ i, i < n → I (g i) → i < m ∧ ∀ Lc, μc i = some Lc → ∃ L0, μ0 (g i) = some L0 ∧ Lc.b = L0.b ∧ Lc.n = L0.n ∧ Lc.z = L0.z ∧ L0.ver < vw i)
    (own : ∀ b, Own μc hc b → OwnD μ0 h0 (fun id => ∃ i, i < n ∧ g i = id) b)
    (him : ∀ b o, A0 b o → An b o ∧ w'.cell? ⟨b, o, none⟩ = w.cell? ⟨b, o, none⟩)
    (himb : ∀ b o, An b o → A0 b o ∨ OwnD μ0 h0 (fun id => ∃ i, i < n ∧ g i = id) b ∨ w.heap.size ≤ b)
    (hac : ∀ b o, An b o → ∃ v, w'.cell? ⟨b, o, none⟩ = some v)
    (hA' : ∀ b o, An b o → A' b o)
    (hob : ∀ k, k < n → ∃ op, ORen w' A' μ' (fun i => i < n) An (callMu μ0 μ' g vw n) (callI I g n) (vw k) op (h' k) (hn (g k)))
    (hout : ∀ id, (∀ i, i < n → g i ≠ id) → hn id = h0 id) :
    WR w' An (callMu μ0 μ' g vw n) (callI I g n) hn ∧ Ev w A0 μ0 I h0 w' An (callMu μ0 μ' g vw n) (callI I g n) hn := by
  have nD : ∀ id, ¬ (∃ i, i < n ∧ g i = id) → ∀ i, i < n → g i ≠ id := fun id hd i hi e => hd ⟨i, hi, e⟩
  have obj : ∀ k o, k < n → hn (g k) = some o → ∃ a L1, h' k = some a ∧ μ' k = some L1 ∧ ObjOK w' An (callMu μ0 μ' g vw n) (callI I g n) { L1 with ver := vw k } o ∧ ownO { L1 with ver := vw k } o = ownO L1 a ∧
      (∀ b ∈ ownO L1 a, ∀ off, ¬ A' b off) := by
    intro k o hk ho
    obtain ⟨op, hr⟩ := hob k hk
    have : ∃ a b, h' k = some a ∧ hn (g k) = some b ∧ (∀ L k off, ¬ appOk L a k off) ∧
        ∀ L1 ver, ((∃ t, op = .mat t) → ver = vw k) → ObjOK w' A' μ' (fun i => i < n) L1 a → ObjOK w' An (callMu μ0 μ' g vw n) (callI I g n) { L1 with ver := ver } b ∧ ownO { L1 with ver := ver } b = ownO L1 a := by
      cases op with
      | dead => obtain ⟨_, e⟩ := hr; rw [e] at ho; simp at ho
      | box ps => exact hr
      | buf t => exact hr
      | mat t => exact hr
    obtain ⟨a, b, q1, q2, q3, q4⟩ := this
    rw [ho] at q2; obtain rfl := Option.some.inj q2
    obtain ⟨_, L1, q5, q6⟩ := W'.ok k a q1
    obtain ⟨q7, q8⟩ := q4 L1 (vw k) (fun _ => rfl) q6
    exact ⟨a, L1, q1, q5, q7, q8, fun b hb off ha => q3 L1 b off (W'.im k a L1 b off q1 q5 hb ha)⟩
  have none : ∀ k, k < n → hn (g k) = none → callMu μ0 μ' g vw n (g k) = none := by
    intro k hk ho
    obtain ⟨op, hr⟩ := hob k hk
    have h0 : h' k = none := by
      cases op with
      | dead => exact hr.1
      | box ps => obtain ⟨a, b, _, e, _⟩ := hr; rw [ho] at e; simp at e
      | buf t => obtain ⟨a, b, _, e, _⟩ := hr; rw [ho] at e; simp at e
      | mat t => obtain ⟨a, b, _, e, _⟩ := hr; rw [ho] at e; simp at e
    rw [callMu_at inj hk, W'.no k h0]; rfl
  have S : Step w A0 μ0 I h0 w' An (callMu μ0 μ' g vw n) (callI I g n) hn (fun id => ∃ i, i < n ∧ g i = id) := by
    refine ⟨fun id hd => ⟨hout id (nD id hd), callMu_out (nD id hd)⟩, E.sz, fun b hb hno => E.same b hb fun q => hno (own b q), him, himb, fun id hi => .inl hi, ?_, E.phys, ?_, ?_, ?_, hac, E.st⟩
    · rintro _ L ⟨i, hi, rfl⟩ hI hL
      obtain ⟨hm, ho⟩ := old i hi hI
      rw [callMu_at inj hi, Option.map_eq_some_iff] at hL
      obtain ⟨L1, h1, rfl⟩ := hL
      obtain ⟨Lc, c1, c2, c3, c4⟩ := E.loc i L1 hm h1
      obtain ⟨L0, d1, d2, d3, d4, d5⟩ := ho Lc c1
      refine ⟨L0, d1, c2.trans d2, c3.trans d3, c4.trans d4, by simp only; omega, fun e => ?_⟩
      simp only at e; omega
    · rintro _ o ⟨i, hi, rfl⟩ ho
      obtain ⟨a, L1, q1, q2, q3, q4, q5⟩ := obj i o hi ho
      refine ⟨.inr ⟨i, hi, rfl⟩, { L1 with ver := vw i }, by rw [callMu_at inj hi, q2]; rfl, q3, by rw [q4]; exact W'.nd i a L1 q1 q2, fun b hb => ?_⟩
      rw [q4] at hb
      refine ⟨W'.lt b ⟨i, a, L1, q1, q2, hb⟩, ?_, fun off ha => absurd (hA' b off ha) (q5 b hb off)⟩
      exact (E.own b ⟨i, a, L1, q1, q2, hb⟩).imp (own b) fun x => x
    · rintro _ ⟨i, hi, rfl⟩ ho
      exact none i hi ho
    · rintro _ _ o o' L L' ⟨i, hi, rfl⟩ ⟨j, hj, rfl⟩ ho ho' hL hL' hne b hb hb'
      obtain ⟨a, L1, q1, q2, q3, q4, q5⟩ := obj i o hi ho
      obtain ⟨a', L1', r1, r2, r3, r4, r5⟩ := obj j o' hj ho'
      rw [callMu_at inj hi, q2] at hL
      rw [callMu_at inj hj, r2] at hL'
      obtain rfl := Option.some.inj hL
      obtain rfl := Option.some.inj hL'
      rw [q4] at hb
      rw [r4] at hb'
      exact W'.dj i j a a' L1 L1' q1 r1 q2 r2 (fun e => hne (by rw [e])) b hb hb'
  exact ⟨S.wr W0, S.ev⟩

end
end Ab
namespace Ab
open Go

def hasBody (P : Program) (f : Nat) : Bool := match P.funcs[f]? with
  | some fn => !(fn.name == "runtime.NumGoroutine") && fn.body.isSome
  | none => false

structure COk (P : Program) (ent : Ent) (xs ys : List V) : Prop where
  body : hasBody P ent.f = true
  ty : ∃ rs, entTy ent rs = true ∧ TyV rs ys
  good : Good P ent xs ys

def TOk (P : Program) (es : List Ent) (e : Nat) (xs ys : List V) : Prop := Vs xs → ∀ ent ∈ es, ent.e = e → COk P ent xs ys

section
variable {P : Program} {o : Oper} {a : Act} {w : World} {A : Am} {μ : Mu} {I : Nat → Prop} {h : Hf} {nid : Nat} {v : V}
  {T : Nat → List V → List V → Prop} {tt : TT} {es : List Ent} {u : List (Nat × Option Obj)} {xs : List V}

theorem Vs.nil : Vs [] := fun _ hy => by simp at hy
theorem Vs.append {a b : List V} (ha : Vs a) (hb : Vs b) : Vs (a ++ b) := fun _ hy => (List.mem_append.1 hy).elim (ha _) (hb _)
theorem Vs.one {t : Ty} {d : t.D} : Vs [.v t d] := fun _ hy => ⟨t, d, List.mem_singleton.1 hy⟩
theorem Vs.cells : ∀ (t : Ty) (d : t.D), Vs (cellsOf t d)
  | .int _, _ => .one
  | .bool, _ => .one
  | .str, _ => .one
  | .list _, _ => .one
  | .pair t u, (x, y) => (Vs.cells t x).append (Vs.cells u y)

theorem mHole_vs {t : Ty} {x : V} {b b' : MB} (hd : Dn T h (mHole t x b) b') (hb : Vs b.fill) : Vs b'.fill := by
  simp only [mHole, dn_bind] at hd
  obtain ⟨⟨y, u⟩, _, hd⟩ := hd
  simp only at hd
  split at hd
  · rw [dn_pure] at hd; subst hd; exact hb.append (.cells _ _)
  · simp [dn_fail] at hd
theorem ownA_vs {i id : Nat} {b b' : MB} (hd : Dn T h (ownA i id b) b') (hb : Vs b.fill) : Vs b'.fill := by
  rw [(own_sound hd).2.2.2.1]; exact hb

mutual
theorem pm_vs : ∀ (p : Pat) {x : V} {b b' : MB}, Dn T h (pm p x b) b' → Vs b.fill → Vs b'.fill
  | .h t, x, b, b', hd, hb => by simp only [pm] at hd; exact mHole_vs hd hb
  | .agg ps, x, b, b', hd, hb => by
    cases x <;> simp only [pm, dn_fail] at hd
    exact pms_vs ps hd hb
  | .tup ps, x, b, b', hd, hb => by
    cases x <;> simp only [pm, dn_fail] at hd
    exact pms_vs ps hd hb
  | .fn f fs cs, x, b, b', hd, hb => by
    cases x <;> simp only [pm, dn_fail, dn_if, dn_bind] at hd
    obtain ⟨_, b1, h1, h2⟩ := hd
    exact pms_vs cs h2 (pms_vs fs h1 hb)
  | .rp ps, x, b, b', hd, hb => by
    cases x with
    | rp cs => simp only [pm] at hd; exact pms_vs ps hd hb
    | p id z i j =>
      cases i with
      | succ i => simp only [pm, dn_fail] at hd
      | zero =>
        cases j with
        | succ j => simp only [pm, dn_fail] at hd
        | zero =>
          simp only [pm, dn_look] at hd
          split at hd
          · exact pms_vs ps hd hb
          · exact pms_vs ps hd hb
          · simp [dn_fail] at hd
    | _ => simp only [pm, dn_fail] at hd
  | .p i, x, b, b', hd, hb => by
    cases x with
    | p id z i j =>
      cases i with
      | succ i => simp only [pm, dn_fail] at hd
      | zero =>
        cases j with
        | succ j => simp only [pm, dn_fail] at hd
        | zero => simp only [pm, dn_if] at hd; exact ownA_vs hd.2 hb
    | _ => simp only [pm, dn_fail] at hd
  | .own i t, x, b, b', hd, hb => by
    cases x with
    | msF id z => simp only [pm, dn_if] at hd; exact ownA_vs hd.2 hb
    | nsl => simp only [pm, dn_pure] at hd; subst hd; exact hb
    | _ => simp only [pm, dn_fail] at hd
  | .ownm i t, x, b, b', hd, hb => by
    cases x with
    | msF id z => simp only [pm, dn_if] at hd; exact ownA_vs hd.2 hb
    | nsl => simp only [pm, dn_pure] at hd; subst hd; exact hb
    | _ => simp only [pm, dn_fail] at hd
theorem pms_vs : ∀ (ps : List Pat) {xs : List V} {b b' : MB}, Dn T h (pms ps xs b) b' → Vs b.fill → Vs b'.fill
  | [], xs, b, b', hd, hb => by
    cases xs <;> simp only [pms, dn_fail, dn_pure] at hd
    subst hd; exact hb
  | p :: ps, xs, b, b', hd, hb => by
    cases xs <;> simp only [pms, dn_fail, dn_bind] at hd
    obtain ⟨b1, h1, h2⟩ := hd
    exact pms_vs ps h2 (pm_vs p h1 hb)
end

theorem objIn_vs : ∀ (os : List OPat) {i : Nat} {b b' : MB}, Dn T h (objIn i os b) b' → Vs b.fill → Vs b'.fill
  | [], i, b, b', hd, hb => by simp only [objIn, dn_pure] at hd; subst hd; exact hb
  | o :: os, i, b, b', hd, hb => by
    simp only [objIn] at hd
    split at hd
    · rw [dn_look] at hd
      split at hd
      · rw [dn_bind] at hd
        obtain ⟨b1, h1, h2⟩ := hd
        exact objIn_vs os h2 (pms_vs _ h1 hb)
      · simp [dn_fail] at hd
    · rw [dn_look] at hd
      split at hd
      · split at hd
        · exact objIn_vs os hd (hb.append .one)
        · simp [dn_fail] at hd
      · split at hd
        · exact objIn_vs os hd (hb.append .one)
        · simp [dn_fail] at hd
      · simp [dn_fail] at hd
    · rw [dn_look] at hd
      split at hd
      · split at hd
        · exact objIn_vs os hd (hb.append .one)
        · simp [dn_fail] at hd
      · simp [dn_fail] at hd
    · rw [dn_if] at hd; exact objIn_vs os hd.2 (hb.append .one)
    · rw [dn_if] at hd; exact objIn_vs os hd.2 (hb.append .one)
    · exact objIn_vs os hd hb
    · simp [dn_fail] at hd

theorem matchA_vs {pre : List (Nat × Nat)} {ps : List Pat} {os : List OPat} {xs : List V} {b : MB} (hd : Dn T h (matchA pre ps os xs) b) : Vs b.fill := by
  simp only [matchA, dn_bind, dn_need, dn_pure] at hd
  obtain ⟨b1, h1, b2, h2, _, _, rfl⟩ := hd
  exact objIn_vs os h2 (pms_vs ps h1 .nil)

theorem call_run {c : Call} {fo : Operand} {f : Nat} {us vs as : List Value} (ho : o.op = .call c) (hc : c.callee = .value fo) (hf : a.eval fo = .func (.func f) us.toArray vs.toArray)
    (ha : c.args.toList.map a.eval = as) (hb : hasBody P f = true) : (execOp a.eval o).run P w = .ok (.enter f (us ++ as ++ vs).toArray) w := by
  have hargs : c.args.map a.eval = as.toArray := by apply Array.ext'; simpa using ha
  simp only [hasBody] at hb
  split at hb
  · rename_i fn hfn
    simp only [Bool.and_eq_true, Bool.not_eq_true'] at hb
    have h2 : fn.body.isNone = false := by
      cases hbd : fn.body with
      | none => simp [hbd] at hb
      | some _ => rfl
    have h3 : fn.name ≠ "runtime.NumGoroutine" := by simpa using hb.1
    have h4 : fn.body ≠ none := fun e => by simp [e] at h2
    simp only [execOp, ho, resolve, hc, hf, Deferred.ofValue, hargs, Sem.run_bind, Sem.run_pure, Result.andThen_ok, invoke, callFunc]
    simp [hfn, h3, h4]
  · simp at hb

theorem pick_mem {f : Nat} {xs : List V} {ent : Ent} : ∀ {es : List Ent}, pick f xs es = some ent → ent ∈ es ∧ ent.f = f
  | [], hp => by simp [pick] at hp
  | e :: es, hp => by
    simp only [pick] at hp
    cases hb : (Nat.beq e.f f && okPs e.args xs) with
    | true =>
      rw [hb, cond_true] at hp
      obtain rfl := Option.some.inj hp
      simp only [Bool.and_eq_true] at hb
      exact ⟨by simp, Nat.eq_of_beq_eq_true hb.1⟩
    | false =>
      rw [hb, cond_false] at hp
      obtain ⟨h1, h2⟩ := pick_mem hp
      exact ⟨List.mem_cons_of_mem _ h1, h2⟩

theorem outsOk_mat : ∀ {a b : List OPat} {k : Nat} {t : Ty}, outsOk a b = true → k < a.length → b[k]? = some (.mat t) → ∃ t', a[k]? = some (.mat t')
  | [], b, k, t, _, hk, _ => by simp at hk
  | x :: a, [], k, t, _, _, hb => by simp at hb
  | x :: a, y :: b, 0, t, ho, _, hb => by
    simp only [List.getElem?_cons_zero, Option.some.injEq] at hb
    subst hb
    cases x with
    | mat t' => exact ⟨t', rfl⟩
    | _ => simp [outsOk] at ho
  | x :: a, y :: b, k + 1, t, ho, hk, hb => by
    have : outsOk a b = true := by
      cases x <;> cases y <;> simp only [outsOk] at ho <;> first | exact ho | simp at ho
    obtain ⟨t', h1⟩ := outsOk_mat (k := k) this (by simpa using hk) (by simpa using hb)
    exact ⟨t', by simpa using h1⟩

theorem assoc_img {α : Type} {g : Nat → Nat} {n : Nat} {u : List (Nat × α)} {f : Nat → α} (inj : ∀ i j, i < n → j < n → g i = g j → i = j) (hl : u.length = n) (hu : ∀ k, k < n → u[k]? = some (g k, f k)) :
    (∀ k, k < n → assoc (g k) u = some (f k)) ∧ ∀ id, (∀ i, i < n → g i ≠ id) → assoc id u = none := by
  refine ⟨fun k hk => ?_, fun id hn => assoc_none fun e he => ?_⟩
  · refine assoc_of_mem ?_ (List.mem_of_getElem? (hu k hk))
    rw [List.nodup_iff_pairwise_ne, List.pairwise_iff_getElem]
    intro i j hi hj hij e
    rw [List.length_map] at hi hj
    have e1 := hu i (by omega)
    have e2 := hu j (by omega)
    rw [List.getElem?_eq_getElem hi] at e1
    rw [List.getElem?_eq_getElem hj] at e2
    rw [List.getElem_map, List.getElem_map, Option.some.inj e1, Option.some.inj e2] at e
    have := inj i j (by omega) (by omega) e
    omega
  · obtain ⟨k, hk, rfl⟩ := List.getElem_of_mem he
    have := hu k (by omega)
    rw [List.getElem?_eq_getElem hk] at this
    rw [Option.some.inj this]
    exact hn k (by omega)

theorem ORen.ver {w : World} {A1 A2 : Am} {μ1 μ2 : Mu} {I1 I2 : Nat → Prop} {v1 v2 : Nat} {op : OPat} {o1 o2 : Option Obj} (hv : (∃ t, op = .mat t) → v2 = v1) (h : ORen w A1 μ1 I1 A2 μ2 I2 v1 op o1 o2) : ORen w A1 μ1 I1 A2 μ2 I2 v2 op o1 o2 := by
  cases op with
  | dead => exact h
  | box ps => obtain ⟨a, b, q1, q2, q3, q4⟩ := h; exact ⟨a, b, q1, q2, q3, fun L ver _ => q4 L ver (fun ⟨t, e⟩ => by simp at e)⟩
  | buf ps => obtain ⟨a, b, q1, q2, q3, q4⟩ := h; exact ⟨a, b, q1, q2, q3, fun L ver _ => q4 L ver (fun ⟨t, e⟩ => by simp at e)⟩
  | mat t => obtain ⟨a, b, q1, q2, q3, q4⟩ := h; exact ⟨a, b, q1, q2, q3, fun L ver hq => q4 L ver (fun hm => (hq hm).trans (hv hm))⟩

/-- the version of an object behind a call -/
def vwOf (μ2 : Mu) (b : MB) (i : Nat) : Nat := match assoc i b.ids with
  | some id => match μ2 id with
    | some L0 => L0.ver + 1
    | none => verAt b.vs i
  | none => verAt b.vs i

theorem op_call {c : Call} {fo : Operand} (ho : o.op = .call c) (hc : c.callee = .value fo) (W : WR w A μ I h) (hf : Fresh I nid) (hx : RVs w A μ I (o.op.operands.toList.map a.eval) xs)
    (hT : ∀ e xs ys, T e xs ys → TOk P es e xs ys) (hd : Dn T h (opA tt es nid o.op xs) (v, u)) : Goal P o a w A μ I h nid v u := by
  rw [ho] at hx hd
  simp only [Op.operands, Call.operands, hc] at hx
  simp only [Array.toList_append, List.map_cons, List.cons_append, List.nil_append] at hx
  obtain ⟨fv, args, rfl, hfv, hargs⟩ : ∃ fv args, xs = fv :: args ∧ RV w A μ I (a.eval fo) fv ∧ RVs w A μ I (c.args.toList.map a.eval) args := by
    cases hx with | cons q1 q2 => exact ⟨_, _, rfl, q1, q2⟩
  cases fv with
  | fn f fs cs =>
    generalize hev : a.eval fo = F at hfv
    cases hfv with
    | fn hus hvs =>
    rename_i us vs
    simp only [opA, hc] at hd
    have hxs : RVs w A μ I (us ++ c.args.toList.map a.eval ++ vs) (fs ++ args ++ cs) := (hus.append hargs).append hvs
    generalize fs ++ args ++ cs = xs at hd hxs
    simp only [callA] at hd
    split at hd
    · simp [dn_fail] at hd
    · rename_i ent hp
      obtain ⟨hmem, hfe⟩ := pick_mem hp
      rw [dn_guard, dn_bind] at hd
      obtain ⟨hg, b, hm, hd⟩ := hd
      rw [dn_call] at hd
      obtain ⟨ys, ht, hd⟩ := hd
      simp only [Bool.not_eq_false', Bool.and_eq_true] at hg
      have hmn : ent.objs.length ≤ ent.outs.length := Nat.le_of_ble_eq_true hg.1
      have hn8 : ent.outs.length ≤ 8 := Nat.le_of_ble_eq_true hg.2
      obtain ⟨cbody, ⟨rs, hty, htv⟩, cgood⟩ := hT _ _ _ ht (matchA_vs hm) ent hmem rfl
      simp only [entTy, Bool.and_eq_true] at hty
      obtain ⟨⟨_, houts⟩, hty⟩ := hty
      split at hty
      rotate_left
      · simp at hty
      rename_i ts1 hty1
      split at hty
      rotate_left
      · simp at hty
      rename_i hty2
      obtain ⟨con, A2, μ2, vs0, r0, u0, W2, E2, hcon, hfz, K, m2, l2, p1, p2, rvs, Wc, ⟨ul, uf⟩, hown, hdead, _⟩ := match_sound W hxs hm
      have hcall := cgood w _ _ _ vs0 r0 u0 p1 p2 rvs Wc
      intro next Q k
      unfold Oper.wp
      rw [call_run ho hc hev rfl (hfe ▸ cbody), Oper.upon_enter]
      rw [← hfe]
      refine hcall.mono ?_
      rintro e w' ⟨v', A', μ', rv, r2, u1, rfl, s1, s2, hv, W', E⟩
      simp only
      -- the names behind the call
      generalize hgd : idAt b.ids ent.objs.length ent.outs.length nid = g at hd
      have hgold : ∀ i id, assoc i b.ids = some id → i < ent.objs.length ∧ g i = id := fun i id hi => by
        have h1 := K.bi _ (assoc_mem hi)
        refine ⟨h1, ?_⟩
        have hb : Nat.blt i ent.objs.length = true := by simpa [Nat.blt_eq] using h1
        rw [← hgd]; simp [idAt, hb, hi]
      have hgnew : ∀ i, i < ent.outs.length → assoc i b.ids = none → nid ≤ g i ∧ g i < nid + 8 ∧ g i = if i < ent.objs.length then nid + (ent.outs.length - ent.objs.length + i) else nid + (i - ent.objs.length) := fun i hi hn => by
        rw [← hgd]
        by_cases hlt : i < ent.objs.length
        · have hb : Nat.blt i ent.objs.length = true := by simpa [Nat.blt_eq] using hlt
          simp only [idAt, hb, cond_true, hn, Option.getD_none, hlt, if_true]; exact ⟨by omega, by omega, trivial⟩
        · have hb : Nat.blt i ent.objs.length = false := by
            cases hb : Nat.blt i ent.objs.length with
            | true => exact absurd (by simpa [Nat.blt_eq] using hb) hlt
            | false => rfl
          simp only [idAt, hb, cond_false, hlt, if_false]; exact ⟨by omega, by omega, trivial⟩
      have hopat : ∀ i id, assoc i b.ids = some id → ∃ op, ent.objs[i]? = some op ∧ ∃ o', OFact w A μ h b (canA w A2 μ h b) (canMu μ2 b) (fun i => i < ent.objs.length) i o' op := fun i id hi => by
        have hl := (hgold i id hi).1
        obtain ⟨o', _, r2⟩ := uf i _ (List.getElem?_eq_getElem hl)
        exact ⟨_, List.getElem?_eq_getElem hl, o', r2⟩
      have hcmap : ∀ id, (∃ i t, ent.objs[i]? = some (.buf t) ∧ assoc i b.ids = some id) ∨ assoc id con = none := fun id => by
        cases hc : assoc id con with
        | none => exact .inr rfl
        | some x => exact .inl (hcon _ (assoc_mem hc))
      have hmatu : ∀ i id t, assoc i b.ids = some id → ent.objs[i]? = some (.mat t) → upd h con id = h id := fun i id t hi ho => by
        rcases hcmap id with ⟨j, t', q1, q2⟩ | q
        · have := keys_val K.nv (assoc_mem hi) (assoc_mem q2)
          subst this
          rw [ho] at q1; simp at q1
        · exact upd_none q
      have hI : ∀ i id, assoc i b.ids = some id → I id := fun i id hi => by
        obtain ⟨op, q1, o', q2⟩ := hopat i id hi
        have hs : ∃ ob, h id = some ob := by
          cases op with
          | dead =>
            rw [hdead i q1] at hi; simp at hi
          | box ps => obtain ⟨id', cs, _, _, _, _, e1, e2, _⟩ := q2; rw [hi] at e1; obtain rfl := Option.some.inj e1; exact ⟨_, e2⟩
          | buf t =>
            rcases q2 with ⟨id', xs, e1, _, e2⟩ | ⟨e1, _⟩
            · rw [hi] at e1; obtain rfl := Option.some.inj e1
              rcases e2 with e2 | ⟨_, _, _, _, e2, _⟩ <;> exact ⟨_, e2⟩
            · exact absurd e1 (K.dk i id _ (assoc_mem hi))
          | mat t =>
            rcases q2 with ⟨id', xs, ver, e1, _, e2, _⟩ | ⟨e1, _⟩
            · rw [hi] at e1; obtain rfl := Option.some.inj e1; exact ⟨_, e2⟩
            · exact absurd e1 (K.dk i id _ (assoc_mem hi))
        obtain ⟨ob, hs⟩ := hs
        exact (W.ok id ob hs).1
      have hcase : ∀ i, i < ent.outs.length → (∃ id, assoc i b.ids = some id) ∨ assoc i b.ids = none := fun i _ => by cases assoc i b.ids <;> simp
      have inj : ∀ i j, i < ent.outs.length → j < ent.outs.length → g i = g j → i = j := fun i j hi hj e => by
        rcases hcase i hi with ⟨id, q⟩ | q <;> rcases hcase j hj with ⟨id', q'⟩ | q'
        · rw [(hgold i id q).2, (hgold j id' q').2] at e
          subst e
          exact keys_val K.nv (assoc_mem q) (assoc_mem q')
        · rw [(hgold i id q).2] at e
          obtain ⟨z1, z2, _⟩ := hgnew j hj q'
          exact absurd (hI i id q) (hf id (by omega) (by omega))
        · rw [(hgold j id' q').2] at e
          obtain ⟨z1, z2, _⟩ := hgnew i hi q
          exact absurd (hI j id' q') (hf id' (by omega) (by omega))
        · obtain ⟨_, _, z1⟩ := hgnew i hi q
          obtain ⟨_, _, z2⟩ := hgnew j hj q'
          rw [z1, z2] at e
          split at e <;> split at e <;> omega
      have hconout : ∀ id, (∀ i, i < ent.outs.length → g i ≠ id) → assoc id con = none := fun id hn => by
        rcases hcmap id with ⟨j, t', q1, q2⟩ | q
        · obtain ⟨r1, r2⟩ := hgold j id q2
          exact absurd r2 (hn j (by omega))
        · exact q
      have hborcon : ∀ e ∈ b.bor, assoc e.1 con = none := fun e he => by
        rcases hcmap e.1 with ⟨j, t', q1, q2⟩ | q
        · exact absurd rfl (K.db e he _ (assoc_mem q2))
        · exact q
      let vv := verAt b.vs
      let vw : Nat → Nat := vwOf μ2 b
      have hvw : ∀ k, k < ent.outs.length → ∀ t, ent.outs[k]? = some (.mat t) → vw k = vv k := fun k hk t ho => by
        rcases hcase k hk with ⟨id, q⟩ | q
        · obtain ⟨hl, _⟩ := hgold k id q
          obtain ⟨t', q1⟩ := outsOk_mat houts hl ho
          obtain ⟨op, q2, o', q3⟩ := hopat k id q
          rw [q1] at q2; obtain rfl := Option.some.inj q2
          rcases q3 with ⟨id', xs', ver, e1, _, e2, e3⟩ | ⟨e1, _⟩
          · rw [q] at e1; obtain rfl := Option.some.inj e1
            obtain ⟨_, L0, z1, z2⟩ := W2.ok id _ ((hmatu k id t' q q1).trans e2)
            have : L0.ver = ver := z2.2.2.2.1
            simp only [vw, vwOf, q, z1, vv, verAt, e3, Option.getD_some, this]
          · exact absurd e1 (K.dk k id _ (assoc_mem q))
        · simp only [vw, vwOf, q, vv]
      -- the plugged results
      split at hd
      rotate_left
      · simp [dn_fail] at hd
      rename_i rr ys1 hpl
      split at hd
      rotate_left
      · simp [dn_fail] at hd
      rename_i uc hplO
      rw [dn_pure] at hd
      simp only [Prod.mk.injEq] at hd
      obtain ⟨rfl, rfl⟩ := hd
      -- both ways
      have fin : ∀ (fl : Bool) (A0 An : Am) (μ0 : Mu) (h0 : Hf), (fl = true → flatP ent.res = true) → (fl = true → ent.outs.all flatO = true) → (fl = false → ∀ b o, A' b o → An b o) →
          WR w A0 μ0 I h0 → Ev w A2 μ2 I (upd h con) w A0 μ0 I h0 → (∀ i id, assoc i b.ids = some id → μ0 id = μ2 id ∧ h0 id = upd h con id) →
          (∀ c o, A0 c o → An c o ∧ w'.cell? ⟨c, o, none⟩ = w.cell? ⟨c, o, none⟩) → (∀ c o, An c o → A0 c o ∨ Own (canMu μ2 b) (upd (fun _ => none) u0) c ∨ w.heap.size ≤ c) → (∀ c o, An c o → A' c o) →
          (∀ c o, An c o → ∃ v, w'.cell? ⟨c, o, none⟩ = some v) →
          (∀ id, (∀ i, i < ent.outs.length → g i ≠ id) → h0 id = upd h (bif (flatP ent.res && ent.outs.all flatO) || b.bor.isEmpty then [] else b.bor) id) →
          next (a.put o.dst v') w' := by
        intro fl A0 An μ0 h0 f1 f2 hA W0 E0 hsame him himb hA' hac hh
        have hloc : ∀ i L, i < ent.outs.length → callMu μ0 μ' g vw ent.outs.length (g i) = some L → ∃ L1, μ' i = some L1 ∧ L.b = L1.b ∧ L.n = L1.n ∧ L.z = L1.z := fun i L hi hL => by
          rw [callMu_at inj hi, Option.map_eq_some_iff] at hL
          obtain ⟨L1, q1, rfl⟩ := hL
          exact ⟨L1, q1, rfl, rfl, rfl⟩
        have hids : ∀ i, i < ent.outs.length → callI I g ent.outs.length (g i) := fun i hi => .inr ⟨i, hi, rfl⟩
        obtain ⟨rv2, t1, t2, t3⟩ := plug_ren (w := w') (A1 := A') (A2 := An) (μ1 := μ') (μ2 := callMu μ0 μ' g vw ent.outs.length) (I1 := fun i => i < ent.outs.length) (I2 := callI I g ent.outs.length) (g1 := id) (g2 := g) hA hids hloc ent.res f1 hty1 htv s1
        rw [hpl] at t1
        simp only [Option.some.injEq, Prod.mk.injEq] at t1
        obtain ⟨rfl, rfl⟩ := t1
        obtain ⟨uc2, t4, t5, t6, t7⟩ := plugO_ren (w := w') (A1 := A') (A2 := An) (μ1 := μ') (μ2 := callMu μ0 μ' g vw ent.outs.length) (I1 := fun i => i < ent.outs.length) (I2 := callI I g ent.outs.length) (g1 := id) (g2 := g) hA (vv1 := fun _ => 0) (vv2 := vv) hids hloc ent.outs 0 f2 hty2 t2 s2
        rw [hplO] at t4
        obtain rfl := Option.some.inj t4
        simp only [Nat.zero_add, id] at t7
        have hobj : ∀ k, k < ent.outs.length → ∃ op o1 o2, u1[k]? = some (k, o1) ∧ uc[k]? = some (g k, o2) ∧ ORen w' A' μ' (fun i => i < ent.outs.length) An (callMu μ0 μ' g vw ent.outs.length) (callI I g ent.outs.length) (vw k) op o1 o2 := fun k hk => by
          obtain ⟨o1, o2, q1, q2, q3⟩ := t7 k _ (List.getElem?_eq_getElem hk)
          exact ⟨_, o1, o2, q1, q2, q3.ver fun ⟨t, ht⟩ => hvw k hk t (by rw [List.getElem?_eq_getElem hk, ht])⟩
        obtain ⟨i1, i2⟩ := assoc_img (f := fun k => (uc[k]?.map (·.2)).getD none) inj t6 (fun k hk => by obtain ⟨_, o1, o2, _, q2, _⟩ := hobj k hk; simp [q2])
        have h1 : ∀ k, k < ent.outs.length → upd (fun _ => none) u1 k = (u1[k]?.map (·.2)).getD none := fun k hk => by
          have := assoc_idx (u := u1) (i := 0) (fun k e he => by
            have hk : k < ent.outs.length := by rw [← t5]; exact (List.getElem?_eq_some_iff.1 he).1
            obtain ⟨_, o1, _, q1, _⟩ := hobj k hk
            rw [he] at q1; rw [Option.some.inj q1, Nat.zero_add]) k
          rw [Nat.zero_add] at this
          obtain ⟨_, o1, _, q1, _⟩ := hobj k hk
          simp only [upd, this, q1, Option.map_some, Option.getD_some]
        have hcs : WR w' An (callMu μ0 μ' g vw ent.outs.length) (callI I g ent.outs.length) (upd h0 uc) ∧ Ev w A0 μ0 I h0 w' An (callMu μ0 μ' g vw ent.outs.length) (callI I g ent.outs.length) (upd h0 uc) := by
          refine call_step (μc := canMu μ2 b) (hc := upd (fun _ => none) u0) W0 W' E inj ?_ ?_ him ?_ hac hA' ?_ ?_
          · intro i hi hIg
            rcases hcase i hi with ⟨id, q⟩ | q
            · obtain ⟨z1, z2⟩ := hgold i id q
              refine ⟨z1, fun Lc hLc => ?_⟩
              simp only [canMu, q, Option.map_eq_some_iff] at hLc
              obtain ⟨L0, y1, rfl⟩ := hLc
              refine ⟨L0, by rw [z2, (hsame i id q).1]; exact y1, rfl, rfl, rfl, ?_⟩
              simp only [vw, vwOf, q, y1]; omega
            · obtain ⟨z1, z2, _⟩ := hgnew i hi q
              exact absurd hIg (hf _ z1 z2)
          · intro c hc
            obtain ⟨i, id, o2, L2, q1, q2, q3, q4⟩ := hown c hc
            obtain ⟨z1, z2⟩ := hgold i id q1
            obtain ⟨y1, y2⟩ := hsame i id q1
            exact ⟨id, o2, L2, ⟨i, by omega, z2⟩, y2.trans q2, y1.trans q3, q4⟩
          · intro c o' ha
            rcases himb c o' ha with q | q | q
            · exact .inl q
            · obtain ⟨i, id, o2, L2, q1, q2, q3, q4⟩ := hown c q
              obtain ⟨z1, z2⟩ := hgold i id q1
              obtain ⟨y1, y2⟩ := hsame i id q1
              exact .inr (.inl ⟨id, o2, L2, ⟨i, by omega, z2⟩, y2.trans q2, y1.trans q3, q4⟩)
            · exact .inr (.inr q)
          · intro k hk
            obtain ⟨op, o1, o2, q1, q2, q3⟩ := hobj k hk
            refine ⟨op, ?_⟩
            rw [h1 k hk, q1]
            rw [upd_some (i1 k hk), q2]
            exact q3
          · intro id hn
            exact upd_none (i2 id hn)
        obtain ⟨Wn, En⟩ := hcs
        have hup : upd h0 uc = upd h (uc ++ bif (flatP ent.res && ent.outs.all flatO) || b.bor.isEmpty then [] else b.bor) := by
          funext id
          rw [upd_append]
          generalize (bif (flatP ent.res && ent.outs.all flatO) || b.bor.isEmpty then [] else b.bor) = X at hh
          cases hu : assoc id uc with
          | some x => rw [upd_some hu, upd_some hu]
          | none =>
            rw [upd_none hu, upd_none hu]
            have hn : ∀ i, i < ent.outs.length → g i ≠ id := fun i hi e => by rw [← e, i1 i hi] at hu; simp at hu
            rw [hh id hn]
        rw [hup] at Wn En
        refine k v' w' _ _ _ (t3 _ hv) Wn (hup ▸ (E2.trans (E0.trans (hup ▸ En)))) fun id hi => ?_
        rcases hi with hi | ⟨i, hi, rfl⟩
        · exact .inl hi
        · rcases hcase i hi with ⟨id, q⟩ | q
          · exact .inl (by rw [(hgold i id q).2]; exact hI i id q)
          · obtain ⟨z1, z2, _⟩ := hgnew i hi q
            exact .inr ⟨z1, z2⟩
      have hAc : ∀ c o, A2 c o → canA w A2 μ h b c o := fun c o ha => .inl ha
      by_cases hflat : (flatP ent.res && ent.outs.all flatO) = true
      · simp only [Bool.and_eq_true] at hflat
        refine fin true A2 A2 μ2 (upd h con) (fun _ => hflat.1) (fun _ => hflat.2) (fun e => by simp at e) W2 Ev.refl (fun _ _ _ => ⟨rfl, rfl⟩) (fun c o ha => ⟨ha, (E.im c o (hAc c o ha)).2⟩) (fun c o ha => .inl ha)
          (fun c o ha => (E.im c o (hAc c o ha)).1) (fun c o ha => ?_) fun id hn => ?_
        · obtain ⟨x, hx⟩ := W2.ac c o ha
          exact ⟨x, ((E.im c o (hAc c o ha)).2).trans hx⟩
        · rw [upd_none (hconout id hn)]
          simp [hflat, upd_nil]
      · have hX : (bif (flatP ent.res && ent.outs.all flatO) || b.bor.isEmpty then [] else b.bor) = b.bor := by
          have : (flatP ent.res && ent.outs.all flatO) = false := by simpa using hflat
          rw [this]
          cases b.bor <;> simp
        have hfz2 : Fzn (upd h con) b.bor := fun e he => by
          obtain ⟨ob, ob', q1, q2, q3⟩ := hfz e he
          exact ⟨ob, ob', by rw [upd_none (hborcon e he)]; exact q1, q2, q3⟩
        obtain ⟨W3, E3⟩ := freeze W2 hfz2
        have hidsbor : ∀ i id, assoc i b.ids = some id → assoc id b.bor = none := fun i id hi => assoc_none fun e he e1 => K.db e he _ (assoc_mem hi) e1
        have hF : ∀ c o, FzC w μ2 (upd h con) b.bor c o ↔ FzC w μ h b.bor c o := fun c o => by
          constructor
          · rintro ⟨e, he, ob, L, q1, q2, q3⟩
            rw [upd_none (hborcon e he)] at q1
            rw [m2 _ (hborcon e he)] at q2
            exact ⟨e, he, ob, L, q1, q2, q3⟩
          · rintro ⟨e, he, ob, L, q1, q2, q3⟩
            exact ⟨e, he, ob, L, by rw [upd_none (hborcon e he)]; exact q1, by rw [m2 _ (hborcon e he)]; exact q2, q3⟩
        have hAA : ∀ c o, frzA w A2 μ2 (upd h con) b.bor c o ↔ canA w A2 μ h b c o := fun c o => by
          simp only [frzA, canA, hF]
        refine fin false _ A' _ _ (fun e => by simp at e) (fun e => by simp at e) (fun _ _ _ ha => ha) W3 E3 (fun i id hi => ?_) (fun c o ha => E.im c o ((hAA c o).1 ha)) (fun c o ha => ?_) (fun _ _ ha => ha) W'.ac fun id hn => ?_
        · exact ⟨by simp [frzMu, hidsbor i id hi], upd_none (hidsbor i id hi)⟩
        · rcases E.imb c o ha with q | q | q
          · exact .inl ((hAA c o).2 q)
          · exact .inr (.inl q)
          · exact .inr (.inr q)
        · rw [hX]
          cases hb : assoc id b.bor with
          | some x => rw [upd_some hb, upd_some hb]
          | none => rw [upd_none hb, upd_none hb, upd_none (hconout id hn)]
  | _ => simp [opA, hc, dn_fail] at hd

end
end Ab
namespace Ab
open Go
section
variable {P : Program} {o : Oper} {a : Act} {w : World} {A : Am} {μ : Mu} {I : Nat → Prop} {h : Hf} {nid : Nat} {v : V}
  {T : Nat → List V → List V → Prop} {tt : TT} {es : List Ent} {u : List (Nat × Option Obj)} {xs : List V}

/-- what a copy reads, cell by cell -/
def Rd (w : World) (A : Am) (ty : Ty) (ys : List ty.D) (X : Value) : Prop :=
  ∃ b cap, X = .slice b ys.length cap ∧ (ys.length = 0 ∨ ∃ c off, b = some ⟨c, off, none⟩ ∧ ∀ j, j < ys.length → ∃ v, w.cell? ⟨c, off + j, none⟩ = some v ∧ RT w A ty (gd ty ys j) [v])

theorem rd_buf {ty : Ty} {l : List ty.D} {b o n cap : Nat} {a : Option Addr} (h1 : ty.sz = 1) (hb : BufOK w A ty l b) (ha : n ≠ 0 → a = some ⟨b, o, none⟩) (hl : o + n ≤ l.length) : Rd w A ty ((l.drop o).take n) (.slice a n cap) := by
  have hlen : ((l.drop o).take n).length = n := by rw [List.length_take, List.length_drop]; omega
  refine ⟨a, cap, by rw [hlen], ?_⟩
  rw [hlen]
  by_cases h0 : n = 0
  · exact .inl h0
  · refine .inr ⟨b, o, ha h0, fun j hj => ?_⟩
    obtain ⟨vs, q1, q2, q3⟩ := hb (o + j) (by omega)
    obtain ⟨v, rfl⟩ := List.length_eq_one_iff.1 (q1.trans h1)
    refine ⟨v, ?_, ?_⟩
    · have := q2 0 (by simp)
      rw [h1, Nat.mul_one, Nat.add_zero] at this
      exact this
    · have : gd ty ((l.drop o).take n) j = gd ty l (o + j) := gd_sub (by rw [List.getElem?_take_of_lt hj, List.getElem?_drop])
      rw [this]; exact q3

theorem reads_rd (W : WR w A μ I h) {X : Value} {x : V} {ty : Ty} {ys : List ty.D} (h1 : ty.sz = 1) (hx : RV w A μ I X x) (hd : Dn T h (reads ty x) ys) : Rd w A ty ys X := by
  unfold reads at hd
  split at hd
  · rw [dn_pure] at hd; subst hd
    cases hx
    exact ⟨none, 0, rfl, .inl rfl⟩
  · rename_i t l
    rw [dn_opt] at hd
    obtain ⟨e, rfl⟩ := asL_same hd
    subst e
    have hr := rv_v hx
    simp only [RT] at hr
    obtain ⟨b, n, cap, e, hn, hcap, hr⟩ := hr
    have e := List.head_eq_of_cons_eq e
    subst e; subst hn
    refine ⟨b, cap, rfl, ?_⟩
    by_cases h0 : l.length = 0
    · exact .inl h0
    · obtain ⟨c, off, vs0, rfl, _⟩ := hr 0 (by omega)
      refine .inr ⟨c, off, rfl, fun j hj => ?_⟩
      obtain ⟨b2, o2, vs, e2, r1, r2, r3⟩ := hr j hj
      simp only [Option.some.injEq, Addr.mk.injEq, and_true] at e2
      obtain ⟨rfl, rfl⟩ := e2
      obtain ⟨v, rfl⟩ := List.length_eq_one_iff.1 (r1.trans h1)
      refine ⟨v, ?_, r3⟩
      have := (r2 0 (by simp)).1
      rw [h1, Nat.mul_one, Nat.add_zero] at this
      exact this
  · rename_i id z
    rw [dn_look] at hd
    split at hd
    · rename_i t l hh
      rw [dn_opt] at hd
      obtain ⟨e, rfl⟩ := asL_same hd
      subst e
      obtain ⟨_, L, hμ, g1, g2, g3, g4⟩ := W.ok id _ hh
      cases hx with
      | @msF a n cap _ _ hid hn hL =>
        obtain ⟨q1, q2, q3⟩ := hL L hμ
        have e : n = l.length := by omega
        subst e
        rcases g4 with ⟨_, g4⟩ | ⟨b, g4, g5, g6⟩
        · subst g4
          exact ⟨a, cap, rfl, .inl rfl⟩
        · have := rd_buf (a := a) (o := 0) (n := l.length) (cap := cap) h1 g6 (fun h0 => by
            rcases q3 with q3 | ⟨b', q4, q5, _⟩
            · omega
            · rw [g4] at q4; obtain rfl := Option.some.inj q4; exact q5) (by omega)
          simpa using this
    · simp [dn_fail] at hd
  · rename_i id z o n
    rw [dn_look] at hd
    split at hd
    · rename_i t l hh
      rw [dn_bind] at hd
      obtain ⟨l', hd, hd2⟩ := hd
      rw [dn_opt] at hd
      rw [dn_pure] at hd2
      obtain ⟨e, rfl⟩ := asL_same hd
      subst e; subst hd2
      obtain ⟨_, L, hμ, g1, g2, g3, g4⟩ := W.ok id _ hh
      cases hx with
      | @ms a n cap _ _ _ hid hn hL =>
        obtain ⟨q1, q2, q3⟩ := hL L hμ
        have hz : z = 1 := by omega
        subst hz
        rcases g4 with ⟨_, g4⟩ | ⟨b, g4, g5, g6⟩
        · have g4 : l = [] := g4
          subst g4
          have : n = 0 := by have : L.n = 0 := g2; omega
          subst this
          exact ⟨a, cap, by simp, .inl (by simp)⟩
        · exact rd_buf (a := a) (o := o) (n := n) (cap := cap) h1 g6 (fun h0 => by
            rcases q3 with q3 | ⟨b', q4, q5, _⟩
            · omega
            · rw [g4] at q4; obtain rfl := Option.some.inj q4; rw [q5, Nat.mul_one]) (show o + n ≤ List.length l by have : L.n = l.length := g2; omega)
    · simp [dn_fail] at hd
  · simp [dn_fail] at hd

theorem cpy_in {α : Type} {l ys : List α} {o n : Nat} (hl : o + (ys.take n).length ≤ l.length) {j : Nat} (hj : j < (ys.take n).length) : (cpy l o n ys)[o + j]? = ys[j]? := by
  unfold cpy
  rw [(seg_get l (ys.take n) o hl).1 j hj, List.getElem?_take_of_lt (by rw [List.length_take] at hj; omega)]
theorem cpy_out {α : Type} {l ys : List α} {o n : Nat} (hl : o + (ys.take n).length ≤ l.length) {j : Nat} (hj : j < o ∨ o + (ys.take n).length ≤ j) : (cpy l o n ys)[j]? = l[j]? := (seg_get l (ys.take n) o hl).2 j hj
theorem cpy_len {α : Type} {l ys : List α} {o n : Nat} (hl : o + (ys.take n).length ≤ l.length) : (cpy l o n ys).length = l.length := by
  unfold cpy
  rw [List.length_append, List.length_append, List.length_take, List.length_drop]; omega

theorem copy_none_run {dT sT elem : Nat} {i : TypeInfo} {type : TypeId} {d a : Option Addr} {dLen dCap sLen sCap : Nat} (hu : P.underlying dT = some (.slice elem)) (hi : P.info? elem = some i) (hn : Nat.min sLen dLen = 0) :
    (Builtin.copy_ #[dT, sT] type #[.slice d dLen dCap, .slice a sLen sCap]).run P w = .ok (goInt 0) w := by
  have hl : ∀ (x : Addr), (loadCells x 0).run P w = .ok #[] w := fun x => by simpa using run_loadCells_list (P := P) w x [] (by simp)
  cases d <;> cases a <;> simp [Builtin.copy_, run_underlying hu, Builtin.lenOf, Builtin.firstCells, Go.sizeOf, typeInfo, hi, hn, storeCells, hl]

theorem copy_run {dT sT elem : Nat} {i : TypeInfo} {type : TypeId} {d a : Addr} {dLen dCap sLen sCap : Nat} {cs : List Value} {w' : World} (hu : P.underlying dT = some (.slice elem)) (hi : P.info? elem = some i) (h1 : i.size = 1)
    (hn : cs.length = Nat.min sLen dLen) (hsrc : ∀ j v, cs[j]? = some v → w.cell? (a.add j) = some v) (hst : (storeCells d cs).run P w = .ok () w') :
    (Builtin.copy_ #[dT, sT] type #[.slice (some d) dLen dCap, .slice (some a) sLen sCap]).run P w = .ok (goInt cs.length) w' := by
  have hl := run_loadCells_list (P := P) w a cs hsrc
  simp [Builtin.copy_, run_underlying hu, Builtin.lenOf, Builtin.firstCells, Go.sizeOf, typeInfo, hi, h1, ← hn, hl, hst]

theorem op_copy {c : Call} {t t' e : Nat} {ty : Ty} {d x : V} {x0 : ty.D} (hok : ttOk P tt = true) (ho : o.op = .call c) (hc : c.callee = .builtin .copy) (hat : c.argTypes.toList = [t, t'])
    (hk : (tt.get t).k = .slice e) (hty : (tt.get e).ty = some ty) (hz0 : dec1 ty (tt.get e).zero = some x0) (h1 : ty.sz = 1) (W : WR w A μ I h) (hx : RVs w A μ I (c.args.toList.map a.eval) [d, x])
    (hd : Dn T h (copyA ty d x) (v, u)) : Goal P o a w A μ I h nid v u := by
  obtain ⟨D, X, e1, hD, hX⟩ : ∃ D X, c.args.toList.map a.eval = [D, X] ∧ RV w A μ I D d ∧ RV w A μ I X x := by
    generalize c.args.toList.map a.eval = l at hx
    cases hx with | cons q1 q2 => cases q2 with | cons q2 q3 => cases q3; exact ⟨_, _, rfl, q1, q2⟩
  have hargs := args2 e1
  have hats : c.argTypes = #[t, t'] := by apply Array.ext'; simpa using hat
  obtain ⟨f, _, hs, hzs⟩ := slice_elem (P := P) (w := w) (A := A) hok hty hz0
  have hu : P.underlying t = some (.slice e) := slice_of hok hk
  have hi1 : f.i.size = 1 := by rw [f.hs, ← hs, h1]
  unfold copyA at hd
  rw [dn_bind] at hd
  obtain ⟨ys, hr, hd⟩ := hd
  obtain ⟨b, cap, rfl, hrd⟩ := reads_rd W h1 hX hr
  have main : ∀ (id o1 n1 cap1 : Nat) (a1 : Option Addr) (l : List ty.D) (L : Loc), h id = some (.buf ty l) → μ id = some L → D = .slice a1 n1 cap1 → o1 + n1 ≤ l.length → (n1 ≠ 0 → ∃ b1, L.b = some b1 ∧ a1 = some ⟨b1, o1, none⟩) →
      Goal P o a w A μ I h nid (.v (.int .i64) (cpyN n1 ys)) [(id, some (.buf ty (cpy l o1 n1 ys)))] := by
    intro id o1 n1 cap1 a1 l L hh hμ hDe hfit ha1
    subst hDe
    have hm : (ys.take n1).length = Nat.min ys.length n1 := by rw [List.length_take, Nat.min_comm]
    have hm2 : (ys.take n1).length ≤ n1 := by rw [List.length_take]; omega
    by_cases h0 : Nat.min ys.length n1 = 0
    · have hcp : cpy l o1 n1 ys = l := by
        have : ys.take n1 = [] := List.eq_nil_of_length_eq_zero (by omega)
        unfold cpy; rw [this]; simp
      have hupd : upd h [(id, some (.buf ty l))] = h := by
        funext j
        by_cases ej : j = id
        · subst ej; simp [upd, assoc, hh]
        · rw [upd_none (assoc_none fun x hx => by rw [List.mem_singleton.1 hx]; exact fun e' => ej e'.symm)]
      rw [hcp]
      refine goal_step (v' := goInt 0) (.inl (run_builtin ho hc fun cs => ?_)) ?_ (by rw [hupd]; exact W) (by rw [hupd]; exact Ev.refl) fun _ h => .inl h
      · have := copy_none_run (w := w) (P := P) (type := o.type) (d := a1) (a := b) (dCap := cap1) (sCap := cap) (sT := t') hu f.hi h0
        simp [Go.builtin, hargs, hats, this]
      · have : cpyN n1 ys = 0 := by unfold cpyN; omega
        rw [this]; exact mk_int _ _
    · have hn1 : n1 ≠ 0 := fun e => h0 (by rw [e]; exact Nat.min_zero _)
      obtain ⟨b1, hb1, rfl⟩ := ha1 hn1
      rcases hrd with hrd | ⟨c0, off, rfl, hrd⟩
      · exact absurd (by rw [hrd]; exact Nat.zero_min _) h0
      · -- the cells that go over
        have ex : ∃ cs : List Value, cs.length = (ys.take n1).length ∧ ∀ j (hj : j < cs.length), w.cell? ⟨c0, off + j, none⟩ = some cs[j] ∧ RT w A ty (gd ty ys j) [cs[j]] := by
          refine ⟨(List.range (ys.take n1).length).map fun j => (w.cell? ⟨c0, off + j, none⟩).getD undef, by simp, fun j hj => ?_⟩
          have hj' : j < ys.length := by
            have : j < (ys.take n1).length := by simpa using hj
            rw [List.length_take] at this; omega
          obtain ⟨v, q1, q2⟩ := hrd j hj'
          simp only [List.getElem_map, List.getElem_range, q1, Option.getD_some]
          exact ⟨trivial, q2⟩
        obtain ⟨cs, hcl, hcs⟩ := ex
        obtain ⟨_, L1, hL1, hob1⟩ := W.ok id _ hh
        rw [hμ] at hL1; obtain rfl := Option.some.inj hL1
        obtain ⟨g1, g2, g3, g4⟩ := hob1
        rcases g4 with ⟨g4, _⟩ | ⟨b', g4, g5, g6⟩
        · rw [hb1] at g4; simp at g4
        · rw [hb1] at g4; obtain rfl := Option.some.inj g4
          obtain ⟨cur, e2, hg⟩ := g5
          have hcell : ∀ k, k < l.length → ∃ v, w.cell? ⟨b1, k, none⟩ = some v := fun k hk => by
            obtain ⟨vs, q1, q2, q3⟩ := g6 k hk
            obtain ⟨v, rfl⟩ := List.length_eq_one_iff.1 (q1.trans h1)
            refine ⟨v, ?_⟩
            have := q2 0 (by simp)
            rw [h1, Nat.mul_one, Nat.add_zero] at this
            exact this
          have hone : ∀ u ∈ cs, u.oneCell' = true := fun u hu => by
            obtain ⟨j, hj, rfl⟩ := List.getElem_of_mem hu
            exact RT_ones _ _ _ (hcs j hj).2 _ (by simp)
          have hsz := fit_of_cells hg hcell
          obtain ⟨w', w1, w2, w3, ⟨cur', w4, w5⟩, w6, w7, w8⟩ := write_cells (P := P) (w := w) (b := b1) (o := o1) hg (us := cs) (by omega) hone
          have hfit2 : o1 + (ys.take n1).length ≤ l.length := by omega
          obtain ⟨W', E⟩ := step_write (hst := w8) (w' := w') (o' := .buf ty (cpy l o1 n1 ys)) (ks := []) W hh hμ (b0 := b1) (by simp [ownO, hb1]) (by simp [appOk]) (by simp) (Lle.refl L) hg w4 w5 w2 w3
            (fun kp => ⟨g1, by rw [cpy_len hfit2]; exact g2, g3, .inr ⟨b1, hb1, ⟨cur', e2, w4⟩, fun k hk => by
              rw [cpy_len hfit2] at hk
              by_cases hin : o1 ≤ k ∧ k < o1 + (ys.take n1).length
              · obtain ⟨j, rfl⟩ : ∃ j, k = o1 + j := ⟨k - o1, by omega⟩
                have hj : j < cs.length := by omega
                refine ⟨[cs[j]], by rw [h1]; rfl, fun r hr => ?_, ?_⟩
                · have : r = 0 := by simpa using hr
                  subst this
                  rw [h1, Nat.mul_one, Nat.add_zero]
                  exact w6 j hj
                · have : gd ty (cpy l o1 n1 ys) (o1 + j) = gd ty ys j := gd_sub (cpy_in hfit2 (by omega))
                  rw [this]; exact RT_mono kp.im _ _ _ (hcs j hj).2
              · obtain ⟨vs, q1, q2, q3⟩ := g6 k hk
                refine ⟨vs, q1, fun r hr => ?_, ?_⟩
                · rw [w7 _ (by rw [q1, h1] at hr; rw [h1]; omega)]; exact q2 r hr
                · have : gd ty (cpy l o1 n1 ys) k = gd ty l k := gd_sub (cpy_out hfit2 (by omega))
                  rw [this]; exact RT_mono kp.im _ _ _ q3⟩⟩) (W.nd id (.buf ty l) L hh hμ)
            (fun b' hb' => ⟨⟨id, _, L, .inl rfl, hh, hμ, hb'⟩, fun off ha => absurd (W.im id _ L b' off hh hμ hb' ha) (by simp [appOk])⟩)
          refine goal_step (v' := goInt cs.length) (.inl (run_builtin ho hc fun cs' => ?_)) ?_ W' E (ids_same (W.ok id _ hh).1)
          · have := copy_run (w := w) (P := P) (type := o.type) (d := ⟨b1, o1, none⟩) (a := ⟨c0, off, none⟩) (dLen := n1) (dCap := cap1) (sLen := ys.length) (sCap := cap) (sT := t') (cs := cs) hu f.hi hi1 (hcl.trans hm) (fun j v hj => by
              obtain ⟨hj2, rfl⟩ := List.getElem?_eq_some_iff.1 hj
              rw [Addr.add_lit]; exact (hcs j hj2).1) w1
            simp [Go.builtin, hargs, hats, this]
          · have : cpyN n1 ys = (cs.length : Int) := by unfold cpyN; rw [hcl]
            rw [this]; exact mk_int _ _
  split at hd
  · rename_i id z
    rw [dn_look] at hd
    split at hd
    · rename_i t1 l hh
      rw [dn_bind] at hd
      obtain ⟨l', hd, hd2⟩ := hd
      rw [dn_opt] at hd
      rw [dn_pure] at hd2
      obtain ⟨e, rfl⟩ := asL_same hd
      subst e
      simp only [Prod.mk.injEq] at hd2
      obtain ⟨rfl, rfl⟩ := hd2
      obtain ⟨_, L, hμ, g1, g2, g3, g4⟩ := W.ok id _ hh
      cases hD with
      | @msF a1 n cap1 _ _ hid hn hL =>
        obtain ⟨q1, q2, q3⟩ := hL L hμ
        have e : n = l.length := by omega
        subst e
        refine main id 0 l.length cap1 a1 l L hh hμ rfl (by omega) fun h0 => ?_
        rcases q3 with q3 | ⟨b', q4, q5, _⟩
        · omega
        · exact ⟨b', q4, q5⟩
    · simp [dn_fail] at hd
  · rename_i id z o1 n1
    rw [dn_look] at hd
    split at hd
    · rename_i t1 l hh
      rw [dn_bind] at hd
      obtain ⟨l', hd, hd2⟩ := hd
      rw [dn_opt] at hd
      rw [dn_pure] at hd2
      obtain ⟨e, rfl⟩ := asL_same hd
      subst e
      simp only [Prod.mk.injEq] at hd2
      obtain ⟨rfl, rfl⟩ := hd2
      obtain ⟨_, L, hμ, g1, g2, g3, g4⟩ := W.ok id _ hh
      cases hD with
      | @ms a1 n cap1 _ _ _ hid hn hL =>
        obtain ⟨q1, q2, q3⟩ := hL L hμ
        have hz : z = 1 := by omega
        subst hz
        refine main id o1 n1 cap1 a1 l L hh hμ rfl (by have : L.n = l.length := g2; omega) fun h0 => ?_
        rcases q3 with q3 | ⟨b', q4, q5, _⟩
        · omega
        · exact ⟨b', q4, by rw [q5, Nat.mul_one]⟩
    · simp [dn_fail] at hd
  · simp [dn_fail] at hd

theorem op_sound (hok : ttOk P tt = true) (W : WR w A μ I h) (hf : Fresh I nid) (hx : RVs w A μ I (o.op.operands.toList.map a.eval) xs)
    (hT : ∀ e xs ys, T e xs ys → TOk P es e xs ys) (hd : Dn T h (opA tt es nid o.op xs) (v, u)) : Goal P o a w A μ I h nid v u := by
  generalize hop : o.op = op
  have hd0 := hd
  rw [hop] at hd
  cases op
  case move x => exact op_move hop W hx hd0
  case assign x => exact op_assign hop W hx hd0
  case pick x y z => exact op_pick hop W hx hd0
  case alloc t => exact op_alloc hok hop W hf hx hd0
  case box t x => exact op_box hop W hf hx hd0
  case build t ps => exact op_build hok hop W hx hd0
  case buildSlice t n ps => exact op_buildSlice hok hop W hf hx hd0
  case load t x => exact op_load hok hop W hx hd0
  case store t y x => exact op_store hok hop W hx hd0
  case nilCheck x => exact op_nilCheck hop W hx hd0
  case binOp op t x y t' => exact op_binOp hok hop W hx hd0
  case unOp op t x => exact op_unOp hop W hx hd0
  case convert s d x => exact op_convert hok hop W hx hd0
  case makeFunc f fs cs => exact op_makeFunc hop W hx hd0
  case makeSlice t l c => exact op_makeSlice hok hop W hf hx hd0
  case slice t x lo hi mx => exact op_slice hok hop W hx hd0
  case fieldAddr s x f => exact op_fieldAddr hok hop W hx hd0
  case field s x f => exact op_field hok hop W hx hd0
  case indexAddr t x i => exact op_indexAddr hok hop W hx hd0
  case index t x i => exact op_index hok hop W hx hd0
  case extract x n => exact op_extract hop W hx hd0
  case call c =>
    cases hc : c.callee with
    | value fo => exact op_call hop hc W hf hx hT hd0
    | invoke r m => simp only [opA, hc] at hd; simp [dn_fail] at hd
    | builtin b =>
      rw [hop] at hx
      have hx' := call_ops hc hx
      cases b
      case len =>
        cases xs with
        | nil => simp [opA, hc, dn_fail] at hd
        | cons x xs =>
          cases xs with
          | cons => simp [opA, hc, dn_fail] at hd
          | nil =>
            simp only [opA, hc] at hd
            split at hd
            · rename_i t r ht
              simp only [noUp, dn_bind, dn_pure, Prod.mk.injEq] at hd
              obtain ⟨v1, hd, rfl, rfl⟩ := hd
              exact op_len hok hop hc ht W hx' hd
            · simp [dn_fail] at hd
      case append =>
        cases xs with
        | nil => simp [opA, hc, dn_fail] at hd
        | cons s xs =>
          cases xs with
          | nil => simp [opA, hc, dn_fail] at hd
          | cons x xs =>
            cases xs with
            | cons => simp [opA, hc, dn_fail] at hd
            | nil =>
              simp only [opA, hc] at hd
              split at hd
              · rename_i t t' hat
                rw [dn_guard] at hd
                obtain ⟨hsl, hd⟩ := hd
                split at hd
                · rename_i e hk
                  split at hd
                  · rename_i ty hty
                    split at hd
                    · rename_i x0 hz
                      exact op_append hok hop hc hat (by simpa using hsl) hk hty hz W hf hx' hd
                    · simp [dn_fail] at hd
                  · simp [dn_fail] at hd
                · simp [dn_fail] at hd
              · simp [dn_fail] at hd
      case copy =>
        rcases xs with _ | ⟨d, _ | ⟨x, _ | ⟨y, xs⟩⟩⟩
        · simp only [opA, hc, dn_fail] at hd
        · simp only [opA, hc, dn_fail] at hd
        · simp only [opA, hc] at hd
          split at hd
          · rename_i t t' hat
            split at hd
            · rename_i e hk
              split at hd
              · rename_i ty hty
                split at hd
                · rename_i x0 hz
                  rw [dn_if] at hd
                  exact op_copy hok hop hc hat hk hty hz (Nat.eq_of_beq_eq_true hd.1) W hx' hd.2
                · simp [dn_fail] at hd
              · simp [dn_fail] at hd
            · simp [dn_fail] at hd
          · simp [dn_fail] at hd
        · simp only [opA, hc, dn_fail] at hd
      case min =>
        rcases xs with _ | ⟨x, _ | ⟨y, _ | ⟨z, xs⟩⟩⟩
        · simp only [opA, hc, dn_fail] at hd
        · simp only [opA, hc, dn_fail] at hd
        · cases x with
          | v tx x =>
            cases tx with
            | int k =>
              cases y with
              | v ty y =>
                cases ty with
                | int k' =>
                  simp only [opA, hc, dn_if, dn_pure] at hd
                  obtain ⟨hk, hd⟩ := hd
                  have := beq_kind hk
                  subst this
                  simp only [Prod.mk.injEq] at hd
                  obtain ⟨rfl, rfl⟩ := hd
                  exact op_min hop hc W hx'
                | _ => simp only [opA, hc, dn_fail] at hd
              | _ => simp only [opA, hc, dn_fail] at hd
            | _ => simp only [opA, hc, dn_fail] at hd
          | _ => simp only [opA, hc, dn_fail] at hd
        · simp only [opA, hc, dn_fail] at hd
      case max =>
        rcases xs with _ | ⟨x, _ | ⟨y, _ | ⟨z, xs⟩⟩⟩
        · simp only [opA, hc, dn_fail] at hd
        · simp only [opA, hc, dn_fail] at hd
        · cases x with
          | v tx x =>
            cases tx with
            | int k =>
              cases y with
              | v ty y =>
                cases ty with
                | int k' =>
                  simp only [opA, hc, dn_if, dn_pure] at hd
                  obtain ⟨hk, hd⟩ := hd
                  have := beq_kind hk
                  subst this
                  simp only [Prod.mk.injEq] at hd
                  obtain ⟨rfl, rfl⟩ := hd
                  exact op_max hop hc W hx'
                | _ => simp only [opA, hc, dn_fail] at hd
              | _ => simp only [opA, hc, dn_fail] at hd
            | _ => simp only [opA, hc, dn_fail] at hd
          | _ => simp only [opA, hc, dn_fail] at hd
        · simp only [opA, hc, dn_fail] at hd
      all_goals (simp only [opA, hc, dn_fail] at hd)
  all_goals (simp only [opA, dn_fail] at hd)
end
end Ab
namespace Ab
open Go

/-- as Dn, with what was looked at -/
inductive DnL {α : Type} (T : Nat → List V → List V → Prop) (h : Hf) : M α → α → List Nat → Prop
  | pure (a) : DnL T h (.pure a) a []
  | look {id k a lg} (d : DnL T h (k (h id)) a lg) : DnL T h (.look id k) a (id :: lg)
  | chk {c i k a lg} (hc : c) (d : DnL T h k a lg) : DnL T h (.chk c i k) a lg
  | br {b k a lg} (d : DnL T h (k b) a lg) : DnL T h (.br b k) a lg
  | call {e xs k ys a lg} (t : T e xs ys) (d : DnL T h (k ys) a lg) : DnL T h (.call e xs k) a lg

theorem DnL.dn {α : Type} {T : Nat → List V → List V → Prop} {h : Hf} {m : M α} {a : α} {lg : List Nat} (d : DnL T h m a lg) : Dn T h m a := by
  induction d with
  | pure a => exact .pure a
  | look _ ih => exact .look ih
  | chk hc _ ih => exact .chk hc ih
  | br _ ih => exact .br ih
  | call t _ ih => exact .call t ih

theorem DnL.congr {α : Type} {T : Nat → List V → List V → Prop} {h h' : Hf} {m : M α} {a : α} {lg : List Nat} (d : DnL T h m a lg) (he : ∀ id ∈ lg, h' id = h id) : DnL T h' m a lg := by
  induction d with
  | pure a => exact .pure a
  | look d ih => rename_i id k a lg; exact .look (by rw [he id (by simp)]; exact ih fun i hi => he i (List.mem_cons_of_mem _ hi))
  | chk hc _ ih => exact .chk hc (ih he)
  | br _ ih => exact .br (ih he)
  | call t _ ih => exact .call t (ih he)

/-- what a table of functions promises -/
def CT.ok {ρ : Type} (C : CT ρ) (T : Nat → List V → List V → Prop) : Prop := ∀ e xs K r, C e xs K = some r → ∃ ys, T e xs ys ∧ K ys = some r

theorem runK_dn {α ρ : Type} {C : CT ρ} {T : Nat → List V → List V → Prop} (hC : C.ok T) {h : Hf} : ∀ (m : M α) (l : List Nat) (K : α → List Nat → Option ρ) (r : ρ), m.runK C h l K = some r →
    ∃ a lg, DnL T h m a lg ∧ K a (lg.reverse ++ l) = some r := by
  intro m
  induction m with
  | pure a => intro l K r hr; exact ⟨a, [], .pure a, by simpa [M.runK] using hr⟩
  | fail => intro l K r hr; simp [M.runK] at hr
  | look id k ih =>
    intro l K r hr
    obtain ⟨a, lg, h1, h2⟩ := ih _ _ _ _ hr
    exact ⟨a, id :: lg, .look h1, by simpa using h2⟩
  | chk c d k ih =>
    intro l K r hr
    simp only [M.runK] at hr
    split at hr
    · rename_i hc
      obtain ⟨a, lg, h1, h2⟩ := ih _ _ _ hr
      exact ⟨a, lg, .chk hc h1, h2⟩
    · simp at hr
  | br b k ih =>
    intro l K r hr
    simp only [M.runK] at hr
    cases b with
    | true => obtain ⟨a, lg, h1, h2⟩ := ih true _ _ _ hr; exact ⟨a, lg, .br h1, h2⟩
    | false => obtain ⟨a, lg, h1, h2⟩ := ih false _ _ _ hr; exact ⟨a, lg, .br h1, h2⟩
  | call e xs k ih =>
    intro l K r hr
    obtain ⟨ys, ht, hk⟩ := hC _ _ _ _ hr
    obtain ⟨a, lg, h1, h2⟩ := ih ys _ _ _ hk
    exact ⟨a, lg, .call ht h1, h2⟩

abbrev Tm := Nat → Option V
def putF (tm : Tm) (d : Option Nat) (v : V) : Tm := match d with
  | some t => fun x => if x = t then some v else tm x
  | none => tm
def evF (tm : Tm) : Operand → V
  | .tmp t => (tm t).getD .top
  | .const v => ofConst v
  | .global _ => .top
  | .func f => .fn f [] []
def St.tmF (st : St) : Tm := fun t => assoc t st.tm

theorem tmF_put (st : St) (d : Option Nat) (v : V) : (st.put d v).tmF = putF st.tmF d v := by
  cases d with
  | none => rfl
  | some t =>
    funext x
    simp only [St.tmF, St.put, putF, assoc]
    by_cases e : x = t
    · subst e; simp
    · have hb : Nat.beq t x = false := by
        cases hb : Nat.beq t x with
        | true => exact absurd (Nat.eq_of_beq_eq_true hb).symm e
        | false => rfl
      simp [hb, e]

theorem ev_F (st : St) : st.ev = evF st.tmF := by funext x; cases x <;> rfl

theorem get_append (u : List (Nat × Option Obj)) (h : Hp) : Hp.get (u ++ h) = upd h.get u := by
  funext id
  simp only [Hp.get, upd, assoc_append]
  cases assoc id u <;> simp

structure Rec where
  v : V
  u : List (Nat × Option Obj)
  lg : List Nat
  ran : Bool

/-- does an operation run -/
def gst (ops : List Oper) (tm : Tm) (o : Oper) : Option Bool :=
  match o.guard with
  | none => some true
  | some (j, want) => match (nth ops j).bind (·.dst) with
    | some t => match tm t with
      | some (.v .bool b) => some (b == want)
      | some .und => some false
      | _ => none
    | none => none

/-- a region in the order of its list -/
inductive Tr (nt : Nat) (tt : TT) (es : List Ent) (T : Nat → List V → List V → Prop) (c : Nat) (ops : List Oper) : List Oper → Nat → Tm → Hf → List Rec → Tm → Hf → Prop
  | nil {i tm h} : Tr nt tt es T c ops [] i tm h [] tm h
  | run {o os i tm h v u lg rs tm' h'} (hd : dstOk nt o.dst = true) (hg : gst ops tm o = some true) (d : DnL T h (opA tt es (c + 8 * i) o.op (o.op.operands.toList.map (evF tm))) (v, u) lg)
      (r : Tr nt tt es T c ops os (i + 1) (putF tm o.dst v) (upd h u) rs tm' h') : Tr nt tt es T c ops (o :: os) i tm h (⟨v, u, lg, true⟩ :: rs) tm' h'
  | skip {o os i tm h rs tm' h'} (hd : dstOk nt o.dst = true) (hg : gst ops tm o = some false)
      (r : Tr nt tt es T c ops os (i + 1) (putF tm o.dst .und) h rs tm' h') : Tr nt tt es T c ops (o :: os) i tm h (⟨.und, [], [], false⟩ :: rs) tm' h'

theorem putF_self {tm : Tm} {t : Nat} {v : V} (h : tm t = some v) : putF tm (some t) v = tm := by
  funext x; simp only [putF]; split
  · rename_i e; rw [e, h]
  · rfl

/-- what the operations looked at and wrote -/
def Logs (tr1 : List (List Nat × List Nat)) (rs : List Rec) : Prop :=
  tr1.length = rs.length ∧ ∀ (k : Nat) (rc : Rec), rs[k]? = some rc → ∃ l, tr1[k]? = some (l, rc.u.map (·.1)) ∧ ∀ id, id ∈ rc.lg → id ∈ l

theorem regK_tr {ρ : Type} {nt : Nat} {tt : TT} {es : List Ent} {C : CT ρ} {T : Nat → List V → List V → Prop} (hC : C.ok T) {ops : List Oper} : ∀ (os : List Oper) (i : Nat) (st : St) (tr : List (List Nat × List Nat)) (K : St → List (List Nat × List Nat) → Option ρ) (r : ρ),
    regK nt tt es C ops os i st tr K = some r → ∃ rs st' tr', Tr nt tt es T st.c ops os i st.tmF st.h.get rs st'.tmF st'.h.get ∧ st'.c = st.c ∧ K st' tr' = some r ∧
      ∃ tr1, tr' = tr1.reverse ++ tr ∧ Logs tr1 rs
  | [], i, st, tr, K, r, hr => ⟨[], st, tr, .nil, rfl, hr, [], rfl, rfl, fun k rc hk => by simp at hk⟩
  | o :: os, i, st, tr, K, r, hr => by
    simp only [regK] at hr
    cases hdst : dstOk nt o.dst with
    | false => simp [hdst] at hr
    | true =>
      rw [hdst, cond_true] at hr
      have ext : ∀ {tm0 : Tm} {h0 : Hf} {rc : Rec} {l : List Nat} {rs : List Rec} {st' : St} {tr' : List (List Nat × List Nat)} {tr1 : List (List Nat × List Nat)},
          Tr nt tt es T st.c ops (o :: os) i st.tmF st.h.get (rc :: rs) st'.tmF st'.h.get → st'.c = st.c → K st' tr' = some r → tr' = tr1.reverse ++ (l, rc.u.map (·.1)) :: tr → (∀ id, id ∈ rc.lg → id ∈ l) → Logs tr1 rs →
          ∃ rs st' tr', Tr nt tt es T st.c ops (o :: os) i st.tmF st.h.get rs st'.tmF st'.h.get ∧ st'.c = st.c ∧ K st' tr' = some r ∧
            ∃ tr1, tr' = tr1.reverse ++ tr ∧ Logs tr1 rs := by
        intro tm0 h0 rc l rs st' tr' tr1 h1 h2 h3 h4 h5 ⟨h6, h7⟩
        refine ⟨rc :: rs, st', tr', h1, h2, h3, (l, rc.u.map (·.1)) :: tr1, by rw [h4]; simp, by simp [h6], fun k rc' hk => ?_⟩
        cases k with
        | zero => simp only [List.getElem?_cons_zero, Option.some.injEq] at hk; subst hk; exact ⟨l, rfl, h5⟩
        | succ k => simpa using h7 k rc' (by simpa using hk)
      have go : ∀ st1 : St, st1.tmF = st.tmF → st1.h = st.h → st1.c = st.c → gst ops st.tmF o = some true →
          M.runK C st1.h.get (opA tt es (st1.c + 8 * i) o.op (o.op.operands.toList.map st1.ev)) [] (fun x lg => regK nt tt es C ops os (i + 1) ({ st1 with h := x.2 ++ st1.h }.put o.dst x.1) ((lg, x.2.map (·.1)) :: tr) K) = some r →
          ∃ rs st' tr', Tr nt tt es T st.c ops (o :: os) i st.tmF st.h.get rs st'.tmF st'.h.get ∧ st'.c = st.c ∧ K st' tr' = some r ∧
            ∃ tr1, tr' = tr1.reverse ++ tr ∧ Logs tr1 rs := by
        intro st1 e1 e2 e3 hg h1
        obtain ⟨⟨v, u⟩, lg, d, h2⟩ := runK_dn hC _ _ _ _ h1
        obtain ⟨rs, st', tr', q1, q2, q3, tr1, q4, q5⟩ := regK_tr hC os (i + 1) _ _ K r h2
        have ec : ({ st1 with h := u ++ st1.h }.put o.dst v).c = st.c := by cases o.dst <;> exact e3
        have eh : ({ st1 with h := u ++ st1.h }.put o.dst v).h.get = upd st.h.get u := by
          rw [← e2]; cases o.dst <;> exact get_append _ _
        have et : ({ st1 with h := u ++ st1.h }.put o.dst v).tmF = putF st.tmF o.dst v := by
          rw [tmF_put]; exact congrArg (fun tm => putF tm o.dst v) e1
        rw [ec, eh, et] at q1
        rw [e2, e3, ev_F, e1] at d
        exact ext (tm0 := st.tmF) (h0 := st.h.get) (rc := ⟨v, u, lg, true⟩) (l := lg.reverse ++ []) (.run hdst hg d q1) (q2.trans ec) q3 q4 (fun id hid => by simpa using hid) q5
      have skip : ∀ st1 : St, st1.tmF = st.tmF → st1.h = st.h → st1.c = st.c → gst ops st.tmF o = some false →
          regK nt tt es C ops os (i + 1) (st1.put o.dst .und) (([], []) :: tr) K = some r →
          ∃ rs st' tr', Tr nt tt es T st.c ops (o :: os) i st.tmF st.h.get rs st'.tmF st'.h.get ∧ st'.c = st.c ∧ K st' tr' = some r ∧
            ∃ tr1, tr' = tr1.reverse ++ tr ∧ Logs tr1 rs := by
        intro st1 e1 e2 e3 hg h1
        obtain ⟨rs, st', tr', q1, q2, q3, tr1, q4, q5⟩ := regK_tr hC os (i + 1) _ _ K r h1
        have ec : (st1.put o.dst .und).c = st.c := by cases o.dst <;> exact e3
        have eh : (st1.put o.dst .und).h.get = st.h.get := by rw [← e2]; cases o.dst <;> rfl
        have et : (st1.put o.dst .und).tmF = putF st.tmF o.dst .und := by rw [tmF_put]; exact congrArg (fun tm => putF tm o.dst .und) e1
        rw [ec, eh, et] at q1
        exact ext (tm0 := st.tmF) (h0 := st.h.get) (rc := ⟨.und, [], [], false⟩) (l := []) (.skip hdst hg q1) (q2.trans ec) q3 q4 (fun id hid => hid) q5
      cases hgd : o.guard with
      | none =>
        rw [hgd] at hr
        exact go st rfl rfl rfl (by simp [gst, hgd]) hr
      | some jw =>
        obtain ⟨j, want⟩ := jw
        rw [hgd] at hr
        simp only at hr
        split at hr
        · rename_i t ht
          split at hr
          · rename_i b hb
            have hst : ∀ q : Bool, b = q → (st.put (some t) (.v .bool q)).tmF = st.tmF := fun q e => by
              rw [tmF_put]; exact putF_self (by rw [← e]; exact hb)
            have hgs : gst ops st.tmF o = some (b == want) := by
              simp only [gst, hgd, ht]
              have : st.tmF t = some (.v .bool b) := hb
              rw [this]
            cases b with
            | true =>
              rw [cond_true] at hr
              cases want with
              | true => exact go _ (hst true rfl) rfl rfl hgs hr
              | false => exact skip _ (hst true rfl) rfl rfl hgs hr
            | false =>
              rw [cond_false] at hr
              cases want with
              | true => exact skip _ (hst false rfl) rfl rfl hgs hr
              | false => exact go _ (hst false rfl) rfl rfl hgs hr
          · rename_i hb
            refine skip st rfl rfl rfl ?_ hr
            simp only [gst, hgd, ht]
            have : st.tmF t = some .und := hb
            rw [this]
          · simp at hr
        · simp at hr
end Ab
namespace Ab
open Go

theorem ofConst_sound {w : World} {A : Am} {μ : Mu} {I : Nat → Prop} (v : Value) : RV w A μ I v (ofConst v) := by
  unfold ofConst
  split
  · exact mk_int _ _
  · exact mk_bool _
  · exact mk_str _
  · exact .nsl
  · exact .nilp
  · exact .nilfn
  · exact .nili
  · exact .top _

/-- a state of the walk -/
structure Sr (nt : Nat) (w : World) (A : Am) (μ : Mu) (I : Nat → Prop) (a : Act) (tm : Tm) (h : Hf) : Prop where
  tm : ∀ t v, tm t = some v → RV w A μ I (a.eval (.tmp t)) v
  wr : WR w A μ I h
  sz : a.tmps.size = nt
  df : a.defers = []

section
variable {P : Program} {w : World} {A : Am} {μ : Mu} {I : Nat → Prop} {h : Hf} {a : Act} {tm : Tm} {nt : Nat} {tt : TT} {es : List Ent} {T : Nat → List V → List V → Prop}

theorem Sr.ev (s : Sr nt w A μ I a tm h) (x : Operand) : RV w A μ I (a.eval x) (evF tm x) := by
  cases x with
  | tmp t =>
    simp only [evF]
    cases ht : tm t with
    | none => exact .top _
    | some v => exact s.tm t v ht
  | const v => exact ofConst_sound v
  | global g => exact .top _
  | func f => exact RV.fn (us := []) (vs := []) .nil .nil

theorem Sr.evs (s : Sr nt w A μ I a tm h) : ∀ l : List Operand, RVs w A μ I (l.map a.eval) (l.map (evF tm))
  | [] => .nil
  | x :: l => .cons (s.ev x) (s.evs l)

theorem eval_put {d : Nat} {v : Value} (hd : d < a.tmps.size) (t : Nat) : (a.put (some d) v).eval (.tmp t) = if t = d then v else a.eval (.tmp t) := by
  simp only [Act.eval, Act.put]
  by_cases e : t = d
  · subst e; simp [hd]
  · simp [e, Array.getElem?_setIfInBounds_ne (fun h => e h.symm)]

theorem Sr.put {w' : World} {A' : Am} {μ' : Mu} {I' : Nat → Prop} {h' : Hf} {d : Option Nat} {v : V} {v' : Value} (s : Sr nt w A μ I a tm h) (e : Ev w A μ I h w' A' μ' I' h') (W : WR w' A' μ' I' h') (hd : dstOk nt d = true)
    (hv : RV w' A' μ' I' v' v) : Sr nt w' A' μ' I' (a.put d v') (putF tm d v) h' := by
  cases d with
  | none => exact ⟨fun t x ht => (s.tm t x ht).mono e.kp, W, s.sz, s.df⟩
  | some d =>
    have hlt : d < a.tmps.size := by rw [s.sz]; simpa [dstOk, Nat.blt_eq] using hd
    refine ⟨fun t x ht => ?_, W, by simp [Act.put, s.sz], s.df⟩
    rw [eval_put hlt]
    simp only [putF] at ht
    split
    · rename_i e1; simp only [e1, if_true, Option.some.injEq] at ht; subst ht; exact hv
    · rename_i e1; simp only [e1, if_false] at ht; exact (s.tm t x ht).mono e.kp

theorem gst_wanted {ops : Array Oper} {o : Oper} {q : Bool} (s : Sr nt w A μ I a tm h) (hg : gst ops.toList tm o = some q) : Region.wanted o (yielded ops a.tmps) = q := by
  unfold gst at hg
  unfold Region.wanted
  split at hg
  · rename_i hgd
    rw [hgd]
    exact Option.some.inj hg
  · rename_i j want hgd
    rw [hgd]
    simp only
    split at hg
    · rename_i t ht
      have ht' : (ops[j]?).bind (·.dst) = some t := by simpa [nth] using ht
      split at hg
      · rename_i b hb
        have hv := rv_bool (s.tm t _ hb)
        have : a.tmps[t]? = some (.bool b) := by
          simp only [Act.eval] at hv
          cases hx : a.tmps[t]? with
          | none => simp [hx, undef] at hv
          | some x => simp [hx] at hv; rw [hv]
        have hy : yielded ops a.tmps j = some b := by simp only [yielded, ht', Option.bind_some, this]
        rw [hy, ← Option.some.inj hg]
        cases b <;> cases want <;> rfl
      · rename_i hb
        have hv := s.tm t _ hb
        have hv' : a.eval (.tmp t) = undef := by generalize a.eval (.tmp t) = X at hv; cases hv; rfl
        have hy : yielded ops a.tmps j = none := by
          simp only [yielded, ht', Option.bind_some]
          simp only [Act.eval] at hv'
          cases hx : a.tmps[t]? with
          | none => rfl
          | some x => simp [hx] at hv'; rw [hv']; rfl
        rw [hy, ← Option.some.inj hg]; rfl
      · simp at hg
    · simp at hg

/-- one operation of a region -/
def RecOK (nt : Nat) (tt : TT) (es : List Ent) (T : Nat → List V → List V → Prop) (c : Nat) (ops : List Oper) (i : Nat) (o : Oper) (tm : Tm) (h : Hf) (rc : Rec) : Prop :=
  dstOk nt o.dst = true ∧ ((gst ops tm o = some true ∧ DnL T h (opA tt es (c + 8 * i) o.op (o.op.operands.toList.map (evF tm))) (rc.v, rc.u) rc.lg) ∨
    (gst ops tm o = some false ∧ rc.v = .und ∧ rc.u = [] ∧ rc.lg = []))

theorem step_op {Q : Exit → Act → World → Prop} {c i : Nat} {ops : Array Oper} {o : Oper} {rc : Rec} {K : Act → World → Prop} (hok : ttOk P tt = true) (hT : ∀ e xs ys, T e xs ys → TOk P es e xs ys) (hi : ops[i]? = some o)
    (s : Sr nt w A μ I a tm h) (hrc : RecOK nt tt es T c ops.toList i o tm h rc) (hf : Fresh I (c + 8 * i))
    (hK : ∀ a' w' A' μ' I', Sr nt w' A' μ' I' a' (putF tm o.dst rc.v) (upd h rc.u) → Ev w A μ I h w' A' μ' I' (upd h rc.u) → (∀ id, I' id → I id ∨ (c + 8 * i ≤ id ∧ id < c + 8 * i + 8)) → K a' w') :
    wpOp P ops Q i K a w := by
  obtain ⟨hd, hrc⟩ := hrc
  unfold wpOp
  simp only [hi]
  rcases hrc with ⟨hg, d⟩ | ⟨hg, e1, e2, _⟩
  · rw [gst_wanted s hg, if_pos rfl]
    refine .inl (op_sound hok s.wr hf (s.evs _) hT d.dn _ _ fun v' w' A' μ' I' hv W E hI => ?_)
    exact hK _ _ _ _ _ (s.put E W hd hv) E hI
  · rw [gst_wanted s hg]
    simp only [Bool.false_eq_true, if_false]
    have := s.put (d := o.dst) (v := .und) (v' := undef) Ev.refl s.wr hd .und
    rw [e1, e2] at hK
    exact hK _ _ A μ I this Ev.refl fun _ h => .inl h

theorem wp_plain {Q : Exit → Act → World → Prop} {c : Nat} {ops : Array Oper} (hok : ttOk P tt = true) (hT : ∀ e xs ys, T e xs ys → TOk P es e xs ys) :
    ∀ {os : List Oper} {i : Nat} {tm : Tm} {h : Hf} {rs : List Rec} {tm' : Tm} {h' : Hf} {a : Act} {w : World} {A : Am} {μ : Mu} {I : Nat → Prop}, Tr nt tt es T c ops.toList os i tm h rs tm' h' →
      (∀ k o, os[k]? = some o → ops[i + k]? = some o) → Sr nt w A μ I a tm h → (∀ id, I id → id < c + 8 * i) →
      (∀ a' w' A' μ' I', Sr nt w' A' μ' I' a' tm' h' → Ev w A μ I h w' A' μ' I' h' → (∀ id, I' id → id < c + 8 * (i + os.length)) → Q .normal a' w') →
      wpOps P ops Q (List.range' i os.length) a w := by
  intro os i tm h rs tm' h' a w A μ I tr
  induction tr generalizing a w A μ I with
  | nil =>
    intro _ s hI hQ
    exact hQ _ _ _ _ _ s Ev.refl (by simpa using hI)
  | @run o os i tm h v u lg rs tm' h' hd hg d r ih =>
    intro hos s hI hQ
    rw [List.length_cons, List.range'_succ, wpOps_cons]
    refine step_op (rc := ⟨v, u, lg, true⟩) hok hT (hos 0 o rfl) s ⟨hd, .inl ⟨hg, d⟩⟩ (fun id h1 h2 h3 => by have := hI id h3; omega) fun a' w' A' μ' I' s' E hI' => ?_
    refine ih (fun k o' hk => by have := hos (k + 1) o' (by simpa using hk); rw [show i + 1 + k = i + (k + 1) by omega]; exact this) s' (fun id hid => ?_) fun a2 w2 A2 μ2 I2 s2 E2 hI2 => hQ _ _ _ _ _ s2 (E.trans E2) fun id hid => ?_
    · rcases hI' id hid with q | q
      · have := hI id q; omega
      · omega
    · have := hI2 id hid; simp only [List.length_cons]; omega
  | @skip o os i tm h rs tm' h' hd hg r ih =>
    intro hos s hI hQ
    rw [List.length_cons, List.range'_succ, wpOps_cons]
    refine step_op (c := c) (rc := ⟨.und, [], [], false⟩) hok hT (hos 0 o rfl) s ⟨hd, .inr ⟨hg, rfl, rfl, rfl⟩⟩ (fun id h1 h2 h3 => by have := hI id h3; omega) fun a' w' A' μ' I' s' E hI' => ?_
    refine ih (fun k o' hk => by have := hos (k + 1) o' (by simpa using hk); rw [show i + 1 + k = i + (k + 1) by omega]; exact this) s' (fun id hid => ?_) fun a2 w2 A2 μ2 I2 s2 E2 hI2 => hQ _ _ _ _ _ s2 (E.trans E2) fun id hid => ?_
    · rcases hI' id hid with q | q
      · have := hI id q; omega
      · omega
    · have := hI2 id hid; simp only [List.length_cons]; omega

end
end Ab
namespace Ab
open Go

/-- written over -/
def ov {α : Type} (f : Nat → α) (g : Nat → Option α) : Nat → α := fun x => match g x with
  | some y => y
  | none => f x
def foldS {α : Type} : List (Nat → Option α) → Nat → (Nat → Bool) → (Nat → α) → Nat → α
  | [], _, _, f => f
  | g :: gs, k, S, f => foldS gs (k + 1) S (bif S k then ov f g else f)

theorem foldS_agree {α : Type} {x : Nat} {S S' : Nat → Bool} : ∀ {gs : List (Nat → Option α)} {k : Nat} {f f' : Nat → α}, f x = f' x → (∀ i g, gs[i]? = some g → S (k + i) ≠ S' (k + i) → g x = none) → foldS gs k S f x = foldS gs k S' f' x
  | [], _, _, _, hf, _ => hf
  | g :: gs, k, f, f', hf, hg => by
    simp only [foldS]
    refine foldS_agree ?_ fun i g' hi hne => hg (i + 1) g' (by simpa using hi) (by rw [show k + (i + 1) = k + 1 + i by omega]; exact hne)
    have h0 := hg 0 g rfl
    rw [Nat.add_zero] at h0
    cases e : S k <;> cases e' : S' k
    · exact hf
    · simp only [cond_false, cond_true, ov, h0 (by rw [e, e']; simp)]; exact hf
    · simp only [cond_false, cond_true, ov, h0 (by rw [e, e']; simp)]; exact hf
    · simp only [cond_true, ov, hf]

theorem foldS_keep {α : Type} {x : Nat} {S : Nat → Bool} : ∀ {gs : List (Nat → Option α)} {k : Nat} {f : Nat → α}, (∀ i g, gs[i]? = some g → S (k + i) = true → g x = none) → foldS gs k S f x = f x
  | [], _, _, _ => rfl
  | g :: gs, k, f, hg => by
    simp only [foldS]
    rw [foldS_keep fun i g' hi hs => hg (i + 1) g' (by simpa using hi) (by rw [show k + (i + 1) = k + 1 + i by omega]; exact hs)]
    have h0 := hg 0 g rfl
    rw [Nat.add_zero] at h0
    cases e : S k
    · rfl
    · simp only [cond_true, ov, h0 e]

theorem foldS_last {α : Type} {x j : Nat} {y : α} {g : Nat → Option α} {S : Nat → Bool} : ∀ {gs : List (Nat → Option α)} {k : Nat} {f : Nat → α}, gs[j]? = some g → g x = some y → S (k + j) = true → (∀ i g, j < i → gs[i]? = some g → S (k + i) = true → g x = none) → foldS gs k S f x = y := by
  induction j with
  | zero =>
    intro gs k f hj hx hS hl
    cases gs with
    | nil => simp at hj
    | cons g0 gs =>
      simp only [List.getElem?_cons_zero, Option.some.injEq] at hj
      subst hj
      simp only [foldS, show S k = true from hS, cond_true]
      rw [foldS_keep fun i g' hi hs => hl (i + 1) g' (by omega) (by simpa using hi) (by rw [show k + (i + 1) = k + 1 + i by omega]; exact hs)]
      simp only [ov, hx]
  | succ j ih =>
    intro gs k f hj hx hS hl
    cases gs with
    | nil => simp at hj
    | cons g0 gs =>
      simp only [foldS]
      exact ih (by simpa using hj) hx (by rw [show k + 1 + j = k + (j + 1) by omega]; exact hS) fun i g' h1 hi hs => hl (i + 1) g' (by omega) (by simpa using hi) (by rw [show k + (i + 1) = k + 1 + i by omega]; exact hs)

theorem foldS_shift {α : Type} {S : Nat → Bool} : ∀ {gs : List (Nat → Option α)} {k d : Nat} {f : Nat → α}, foldS gs (k + d) S f = foldS gs k (fun i => S (i + d)) f
  | [], _, _, _ => rfl
  | g :: gs, k, d, f => by
    simp only [foldS]
    rw [show k + d + 1 = k + 1 + d by omega]
    exact foldS_shift

def wT (d : Option Nat) (v : V) : Nat → Option (Option V) := fun x => if d = some x then some (some v) else none
theorem putF_ov (tm : Tm) (d : Option Nat) (v : V) : putF tm d v = ov tm (wT d v) := by
  funext x
  cases d with
  | none => simp [putF, ov, wT]
  | some t =>
    by_cases e : x = t
    · subst e; simp [putF, ov, wT]
    · have : ¬ t = x := fun h => e h.symm
      simp [putF, ov, wT, e, this]
def wH (u : List (Nat × Option Obj)) : Nat → Option (Option Obj) := fun x => assoc x u
theorem upd_ov (h : Hf) (u : List (Nat × Option Obj)) : upd h u = ov h (wH u) := by
  funext id; simp only [upd, ov, wH]; cases assoc id u <;> rfl

def tws (os : List Oper) (rs : List Rec) : List (Nat → Option (Option V)) := List.zipWith (fun o rc => wT o.dst rc.v) os rs
def hws (rs : List Rec) : List (Nat → Option (Option Obj)) := rs.map fun rc => wH rc.u

section
variable {nt : Nat} {tt : TT} {es : List Ent} {T : Nat → List V → List V → Prop} {c : Nat} {ops : List Oper}

theorem lt_false (i k : Nat) : (fun j => Nat.blt (j + (i + 1)) (k + (i + 1))) = fun j => Nat.blt j k := by
  funext j
  show Nat.ble (j + (i + 1) + 1) (k + (i + 1)) = Nat.ble (j + 1) k
  have : ∀ a b c : Nat, Nat.ble (a + c) (b + c) = Nat.ble a b := fun a b c => by
    induction c with
    | zero => rfl
    | succ c ih => exact ih
  have := this (j + 1) k (i + 1)
  rw [show j + (i + 1) + 1 = j + 1 + (i + 1) by omega]
  exact this

/-- each operation in the order of the list -/
theorem Tr.facts {os : List Oper} {i : Nat} {tm : Tm} {h : Hf} {rs : List Rec} {tm' : Tm} {h' : Hf} (tr : Tr nt tt es T c ops os i tm h rs tm' h') :
    rs.length = os.length ∧ (∀ k o, os[k]? = some o → ∃ rc, rs[k]? = some rc ∧ RecOK nt tt es T c ops (i + k) o (foldS (tws os rs) 0 (fun j => Nat.blt j k) tm) (foldS (hws rs) 0 (fun j => Nat.blt j k) h) rc) ∧
      tm' = foldS (tws os rs) 0 (fun _ => true) tm ∧ h' = foldS (hws rs) 0 (fun _ => true) h := by
  have key : ∀ {o : Oper} {os : List Oper} {i : Nat} {tm : Tm} {h : Hf} {rc : Rec} {rs : List Rec} {tm' : Tm} {h' : Hf}, RecOK nt tt es T c ops i o tm h rc →
      (rs.length = os.length ∧ (∀ k o', os[k]? = some o' → ∃ rc', rs[k]? = some rc' ∧ RecOK nt tt es T c ops (i + 1 + k) o' (foldS (tws os rs) 0 (fun j => Nat.blt j k) (putF tm o.dst rc.v)) (foldS (hws rs) 0 (fun j => Nat.blt j k) (upd h rc.u)) rc') ∧
        tm' = foldS (tws os rs) 0 (fun _ => true) (putF tm o.dst rc.v) ∧ h' = foldS (hws rs) 0 (fun _ => true) (upd h rc.u)) →
      ((rc :: rs).length = (o :: os).length ∧ (∀ k o', (o :: os)[k]? = some o' → ∃ rc', (rc :: rs)[k]? = some rc' ∧ RecOK nt tt es T c ops (i + k) o' (foldS (tws (o :: os) (rc :: rs)) 0 (fun j => Nat.blt j k) tm) (foldS (hws (rc :: rs)) 0 (fun j => Nat.blt j k) h) rc') ∧
        tm' = foldS (tws (o :: os) (rc :: rs)) 0 (fun _ => true) tm ∧ h' = foldS (hws (rc :: rs)) 0 (fun _ => true) h) := by
    intro o os i tm h rc rs tm' h' h0 ⟨h1, h2, h3, h4⟩
    refine ⟨by simp [h1], fun k o' hk => ?_, ?_, ?_⟩
    · cases k with
      | zero =>
        simp only [List.getElem?_cons_zero, Option.some.injEq] at hk
        subst hk
        refine ⟨rc, rfl, ?_⟩
        have e : ∀ {α : Type} (gs : List (Nat → Option α)) (f : Nat → α), foldS gs 0 (fun j => Nat.blt j 0) f = f := fun gs f => by
          funext x; exact foldS_keep fun i g _ hs => by simp [Nat.blt] at hs
        rw [e, e]; exact h0
      | succ k =>
        obtain ⟨rc', q1, q2⟩ := h2 k o' (by simpa using hk)
        refine ⟨rc', by simpa using q1, ?_⟩
        have e1 : foldS (tws (o :: os) (rc :: rs)) 0 (fun j => Nat.blt j (k + 1)) tm = foldS (tws os rs) 0 (fun j => Nat.blt j k) (putF tm o.dst rc.v) := by
          simp only [tws, List.zipWith_cons_cons, foldS]
          rw [show Nat.blt 0 (k + 1) = true by simp [Nat.blt_eq], cond_true, ← putF_ov, foldS_shift (k := 0) (d := 0 + 1), lt_false 0 k]
        have e2 : foldS (hws (rc :: rs)) 0 (fun j => Nat.blt j (k + 1)) h = foldS (hws rs) 0 (fun j => Nat.blt j k) (upd h rc.u) := by
          simp only [hws, List.map_cons, foldS]
          rw [show Nat.blt 0 (k + 1) = true by simp [Nat.blt_eq], cond_true, ← upd_ov, foldS_shift (k := 0) (d := 0 + 1), lt_false 0 k]
        rw [e1, e2, show i + (k + 1) = i + 1 + k by omega]
        exact q2
    · rw [h3]; simp only [tws, List.zipWith_cons_cons, foldS, cond_true]
      rw [← putF_ov, foldS_shift (k := 0) (d := 0 + 1)]
    · rw [h4]; simp only [hws, List.map_cons, foldS, cond_true]
      rw [← upd_ov, foldS_shift (k := 0) (d := 0 + 1)]
  induction tr with
  | nil => exact ⟨rfl, fun k o hk => by simp at hk, rfl, rfl⟩
  | run hd hg d r ih => exact key (rc := ⟨_, _, _, true⟩) ⟨hd, .inl ⟨hg, d⟩⟩ ih
  | skip hd hg r ih => exact key (rc := ⟨.und, [], [], false⟩) ⟨hd, .inr ⟨hg, rfl, rfl, rfl⟩⟩ ih

end
end Ab
namespace Ab
open Go

theorem foldl_bits {acc : List Nat} {i : Nat} : ∀ {l : List Edge} {s : Nat}, (l.foldl (fun s e => bif Region.binds .any e then s ||| (2 ^ e.on) ||| acc.getD e.on 0 else s) s).testBit i = true →
    s.testBit i = true ∨ ∃ e ∈ l, Region.binds .any e = true ∧ (e.on = i ∨ (acc.getD e.on 0).testBit i = true)
  | [], s, h => .inl h
  | e :: l, s, h => by
    rw [List.foldl_cons] at h
    rcases foldl_bits h with q | ⟨e', he, q⟩
    · cases hb : Region.binds .any e with
      | false => rw [hb, cond_false] at q; exact .inl q
      | true =>
        rw [hb, cond_true] at q
        simp only [Nat.testBit_or, Bool.or_eq_true, Nat.testBit_two_pow, decide_eq_true_eq] at q
        rcases q with (q | q) | q
        · exact .inl q
        · exact .inr ⟨e, by simp, hb, .inl q⟩
        · exact .inr ⟨e, by simp, hb, .inr q⟩
    · exact .inr ⟨e', List.mem_cons_of_mem _ he, q⟩

theorem masks_spec : ∀ {os : List Oper} {acc : List Nat}, (∀ k, k < acc.length → (masks os acc)[k]? = acc[k]?) ∧ ∀ k o, os[k]? = some o → ∃ m, (masks os acc)[acc.length + k]? = some m ∧ ∀ i, m.testBit i = true →
    ∃ e ∈ o.after, Region.binds .any e = true ∧ (e.on = i ∨ ∃ m', (masks os acc)[e.on]? = some m' ∧ m'.testBit i = true)
  | [], acc => ⟨fun _ _ => rfl, fun k o hk => by simp at hk⟩
  | o :: os, acc => by
    simp only [masks]
    generalize hm : (o.after.toList.foldl (fun s e => bif Region.binds .any e then s ||| (2 ^ e.on) ||| acc.getD e.on 0 else s) 0) = m
    obtain ⟨h1, h2⟩ := masks_spec (os := os) (acc := acc ++ [m])
    have h1' : ∀ k, k < acc.length → (masks os (acc ++ [m]))[k]? = acc[k]? := fun k hk => by
      rw [h1 k (by simp; omega), List.getElem?_append_left hk]
    refine ⟨h1', fun k o' hk => ?_⟩
    cases k with
    | zero =>
      simp only [List.getElem?_cons_zero, Option.some.injEq] at hk
      subst hk
      refine ⟨m, by rw [Nat.add_zero, h1 acc.length (by simp)]; simp, fun i hi => ?_⟩
      rw [← hm] at hi
      rcases foldl_bits hi with q | ⟨e, he, hb, q⟩
      · simp at q
      · refine ⟨e, by simpa using he, hb, q.imp (fun x => x) fun q => ?_⟩
        by_cases hl : e.on < acc.length
        · refine ⟨acc[e.on], by rw [h1' _ hl, List.getElem?_eq_getElem hl], ?_⟩
          simpa [List.getD, List.getElem?_eq_getElem hl] using q
        · simp [List.getD, List.getElem?_eq_none (Nat.le_of_not_lt hl)] at q
    | succ k =>
      obtain ⟨m', q1, q2⟩ := h2 k o' (by simpa using hk)
      refine ⟨m', ?_, q2⟩
      rw [show acc.length + (k + 1) = (acc ++ [m]).length + k by simp; omega]
      exact q1

theorem commAll_spec {ops : List Oper} {tr : List (List Nat × List Nat)} {m j : Nat} : ∀ {n : Nat}, commAll ops tr m j n = true → ∀ i, i < n → m.testBit i = true ∨ commAt ops tr i j = true
  | 0, _, i, hi => by omega
  | n + 1, h, i, hi => by
    simp only [commAll, Bool.and_eq_true, Bool.or_eq_true] at h
    by_cases e : i = n
    · subst e; exact h.2
    · exact commAll_spec h.1 i (by omega)

theorem commFrom_spec {ops : List Oper} {tr : List (List Nat × List Nat)} : ∀ {ms : List Nat} {j : Nat}, commFrom ops tr ms j = true → ∀ k m, ms[k]? = some m → ∀ i, i < j + k → m.testBit i = true ∨ commAt ops tr i (j + k) = true
  | [], _, _, k, m, hk => by simp at hk
  | m0 :: ms, j, h, k, m, hk => by
    simp only [commFrom, Bool.and_eq_true] at h
    cases k with
    | zero =>
      simp only [List.getElem?_cons_zero, Option.some.injEq] at hk
      subst hk
      exact commAll_spec h.1
    | succ k =>
      rw [show j + (k + 1) = j + 1 + k by omega]
      exact commFrom_spec h.2 k m (by simpa using hk)

theorem backB_spec : ∀ {os : List Oper} {i : Nat}, backB os i = true → ∀ k o, os[k]? = some o → ∀ e ∈ o.after, Region.binds .any e = true → e.on < i + k
  | [], _, _, k, o, hk => by simp at hk
  | o :: os, i, h, k, o', hk => by
    simp only [backB, Bool.and_eq_true, List.all_eq_true, Bool.or_eq_true, Bool.not_eq_true'] at h
    cases k with
    | zero =>
      simp only [List.getElem?_cons_zero, Option.some.injEq] at hk
      subst hk
      intro e he hb
      rcases h.1 e (by simpa using he) with q | q
      · rw [hb] at q; simp at q
      · simpa [Nat.blt_eq] using q
    | succ k =>
      rw [show i + (k + 1) = i + 1 + k by omega]
      exact backB_spec h.2 k o' (by simpa using hk)

theorem disj_spec {a b : List Nat} (h : disj a b = true) {x : Nat} (ha : x ∈ a) : x ∉ b := fun hb => by
  simp only [disj, List.all_eq_true, Bool.not_eq_true'] at h
  have := h x ha x hb
  simp at this

theorem assoc_keys {α : Type} {k : Nat} {u : List (Nat × α)} (h : k ∉ u.map (·.1)) : assoc k u = none :=
  assoc_none fun e he e1 => h (List.mem_map.2 ⟨e, he, e1⟩)
theorem keys_assoc {α : Type} {k : Nat} {u : List (Nat × α)} {x : α} (h : assoc k u = some x) : k ∈ u.map (·.1) := List.mem_map.2 ⟨_, assoc_mem h, rfl⟩

/-- two operations that may change places -/
structure Cm (ops : List Oper) (x y : Oper) (a b : Rec) : Prop where
  xu : ∀ d, x.dst = some d → d ∉ usesOf ops y ∧ y.dst ≠ some d
  yu : ∀ d, y.dst = some d → d ∉ usesOf ops x
  wr : ∀ id, id ∈ a.u.map (·.1) → id ∉ b.lg ∧ id ∉ b.u.map (·.1)
  rw : ∀ id, id ∈ b.u.map (·.1) → id ∉ a.lg

theorem commAt_spec {ops : List Oper} {tr : List (List Nat × List Nat)} {rs : List Rec} {i j : Nat} {x y : Oper} {a b : Rec} (hl : Logs tr rs) (h : commAt ops tr i j = true) (hx : ops[i]? = some x) (hy : ops[j]? = some y)
    (ha : rs[i]? = some a) (hb : rs[j]? = some b) : Cm ops x y a b := by
  obtain ⟨la, h1, h2⟩ := hl.2 i a ha
  obtain ⟨lb, h3, h4⟩ := hl.2 j b hb
  simp only [commAt, nth, hx, hy, h1, h3, Bool.and_eq_true, apartO] at h
  obtain ⟨⟨⟨⟨q1, q2⟩, q3⟩, q4⟩, q5⟩ := h
  refine ⟨fun d hd => ?_, fun d hd => ?_, fun id hid => ⟨fun hb => disj_spec q3 hid (h4 id hb), disj_spec q4 hid⟩, fun id hid ha => disj_spec q5 hid (h2 id ha)⟩
  · have := disj_spec q1 (x := d) (by simp [hd])
    simp only [List.mem_append, not_or] at this
    exact ⟨this.1, fun e => this.2 (by simp [e])⟩
  · exact disj_spec q2 (by simp [hd])

theorem evF_agree {tm tm' : Tm} {x : Operand} (h : ∀ t, x = .tmp t → tm t = tm' t) : evF tm x = evF tm' x := by
  cases x with
  | tmp t => simp only [evF, h t rfl]
  | _ => rfl

theorem gst_agree {ops : List Oper} {tm tm' : Tm} {o : Oper} (h : ∀ t, t ∈ usesOf ops o → tm t = tm' t) : gst ops tm o = gst ops tm' o := by
  unfold gst
  split
  · rfl
  · rename_i j want hg
    split
    · rename_i t ht
      rw [h t (by simp [usesOf, hg, ht])]
    · rfl

section
variable {P : Program} {w : World} {A : Am} {μ : Mu} {I : Nat → Prop} {h : Hf} {a : Act} {tm : Tm} {nt : Nat} {tt : TT} {es : List Ent} {T : Nat → List V → List V → Prop}

theorem tws_get {os : List Oper} {rs : List Rec} {k : Nat} {g : Nat → Option (Option V)} (h : (tws os rs)[k]? = some g) : ∃ o rc, os[k]? = some o ∧ rs[k]? = some rc ∧ g = wT o.dst rc.v := by
  simp only [tws, List.getElem?_zipWith] at h
  cases ho : os[k]? with
  | none => simp [ho] at h
  | some o =>
    cases hr : rs[k]? with
    | none => simp [ho, hr] at h
    | some rc => simp [ho, hr] at h; exact ⟨o, rc, rfl, rfl, h.symm⟩
theorem hws_get {rs : List Rec} {k : Nat} {g : Nat → Option (Option Obj)} (h : (hws rs)[k]? = some g) : ∃ rc, rs[k]? = some rc ∧ g = wH rc.u := by
  simp only [hws, List.getElem?_map, Option.map_eq_some_iff] at h
  obtain ⟨rc, h1, h2⟩ := h
  exact ⟨rc, h1, h2.symm⟩

theorem count_set {l : List Bool} {i : Nat} (h : l[i]? = some false) : (l.set i true).count false + 1 = l.count false := by
  induction l generalizing i with
  | nil => simp at h
  | cons b l ih =>
    cases i with
    | zero => simp only [List.getElem?_cons_zero, Option.some.injEq] at h; subst h; simp
    | succ i =>
      have := ih (by simpa using h)
      simp only [List.set_cons_succ, List.count_cons]; omega

theorem wp_any {Q : Exit → Act → World → Prop} {id c : Nat} {ops : Array Oper} {rs : List Rec} {tm' : Tm} {h' : Hf} {trl : List (List Nat × List Nat)} (hok : ttOk P tt = true) (hT : ∀ e xs ys, T e xs ys → TOk P es e xs ys)
    (hm : P.follows .mixedOrders = true) (tr : Tr nt tt es T c ops.toList ops.toList 0 tm h rs tm' h') (hl : Logs trl rs) (hc : commB ops.toList trl = true) (s : Sr nt w A μ I a tm h) (hI : ∀ id, I id → id < c)
    (hQ : ∀ a' w' A' μ' I', Sr nt w' A' μ' I' a' tm' h' → Ev w A μ I h w' A' μ' I' h' → (∀ id, I' id → id < c + 8 * ops.size) → Q .normal a' w') : (Code.region id ops true).wp P Q a w := by
  obtain ⟨f1, f2, f3, f4⟩ := tr.facts
  simp only [commB, Bool.and_eq_true] at hc
  obtain ⟨⟨hb, _⟩, hc⟩ := hc
  have hback := backB_spec hb
  have hcomm := commFrom_spec hc
  have hmask := (masks_spec (os := ops.toList) (acc := [])).2
  simp only [List.length_nil, Nat.zero_add] at hmask hcomm hback f2
  generalize hM : masks ops.toList [] = M at hmask hcomm
  have hrc : ∀ k o, ops[k]? = some o → ∃ rc, rs[k]? = some rc := fun k o hk => by
    obtain ⟨rc, q, _⟩ := f2 k o (by simpa using hk); exact ⟨rc, q⟩
  -- pairs that are not ordered may change places
  have hpair : ∀ (i j : Nat) (x y : Oper) (ra rb : Rec) (m : Nat), i < j → ops[i]? = some x → ops[j]? = some y → rs[i]? = some ra → rs[j]? = some rb → M[j]? = some m → m.testBit i = false → Cm ops.toList x y ra rb := fun i j x y ra rb m hij hx hy ha hb hm hbit => by
    rcases hcomm j m hm i hij with q | q
    · rw [hbit] at q; simp at q
    · exact commAt_spec hl q (by simpa using hx) (by simpa using hy) ha hb
  let tw := tws ops.toList rs
  let hw := hws rs
  have done : ∀ (listed : Array Bool) (a : Act) (w : World) (A : Am) (μ : Mu) (I : Nat → Prop), listed.size = ops.size → (∀ k, k < ops.size → listed.getD k false = true) →
      Sr nt w A μ I a (foldS tw 0 (fun k => listed.getD k false) tm) (foldS hw 0 (fun k => listed.getD k false) h) →
      (∀ id, I id → id < c ∨ ∃ k, listed.getD k false = true ∧ c + 8 * k ≤ id ∧ id < c + 8 * k + 8) →
      (∀ a' w' A' μ' I', Sr nt w' A' μ' I' a' tm' h' → Ev w A μ I (foldS hw 0 (fun k => listed.getD k false) h) w' A' μ' I' h' → (∀ id, I' id → id < c + 8 * ops.size) → Q .normal a' w') → Q .normal a w := by
    intro listed a w A μ I hsz hall s hI hQ
    have et : foldS tw 0 (fun k => listed.getD k false) tm = tm' := by
      rw [f3]; funext x
      refine foldS_agree rfl fun i g hi hne => ?_
      obtain ⟨o, rc, q1, _⟩ := tws_get hi
      have hlt : i < ops.size := by have := (List.getElem?_eq_some_iff.1 q1).1; simpa using this
      rw [Nat.zero_add, hall i hlt] at hne; simp at hne
    have eh : foldS hw 0 (fun k => listed.getD k false) h = h' := by
      rw [f4]; funext x
      refine foldS_agree rfl fun i g hi hne => ?_
      obtain ⟨rc, q1, _⟩ := hws_get hi
      have hlt : i < ops.size := by have := (List.getElem?_eq_some_iff.1 q1).1; rw [f1] at this; simpa using this
      rw [Nat.zero_add, hall i hlt] at hne; simp at hne
    rw [et, eh] at s
    refine hQ _ _ _ _ _ s (by rw [eh]; exact Ev.refl) fun id hid => ?_
    rcases hI id hid with q | ⟨k, q1, q2, q3⟩
    · omega
    · have : k < ops.size := by
        by_cases hk : k < listed.size
        · omega
        · simp [Array.getElem?_eq_none (Nat.le_of_not_lt hk)] at q1
      omega
  have main : ∀ (fuel : Nat) (listed : Array Bool) (a : Act) (w : World) (A : Am) (μ : Mu) (I : Nat → Prop), listed.size = ops.size → listed.toList.count false ≤ fuel →
      (∀ k, listed.getD k false = true → ∀ m, M[k]? = some m → ∀ i, m.testBit i = true → listed.getD i false = true) →
      Sr nt w A μ I a (foldS tw 0 (fun k => listed.getD k false) tm) (foldS hw 0 (fun k => listed.getD k false) h) →
      (∀ id, I id → id < c ∨ ∃ k, listed.getD k false = true ∧ c + 8 * k ≤ id ∧ id < c + 8 * k + 8) →
      (∀ a' w' A' μ' I', Sr nt w' A' μ' I' a' tm' h' → Ev w A μ I (foldS hw 0 (fun k => listed.getD k false) h) w' A' μ' I' h' → (∀ id, I' id → id < c + 8 * ops.size) → Q .normal a' w') →
      wpAny P .any ops Q fuel listed a w := by
    intro fuel
    induction fuel with
    | zero =>
      intro listed a w A μ I hsz hcnt hcl s hI hQ
      have hall : ∀ k, k < ops.size → listed.getD k false = true := fun k hk => by
        have hk' : k < listed.size := by omega
        have hmem : listed[k] ∈ listed.toList := by simp
        cases hv : listed[k] with
        | true => simp [hk', hv]
        | false =>
          rw [hv] at hmem
          have := List.count_pos_iff.2 hmem
          omega
      have hr : Region.ready .any ops listed = [] := by
        cases hr : Region.ready .any ops listed with
        | nil => rfl
        | cons j l =>
          obtain ⟨h0, o, ho, _⟩ := mem_ready.1 (show j ∈ Region.ready .any ops listed by rw [hr]; simp)
          have hj : j < ops.size := (Array.getElem?_eq_some_iff.1 ho).1
          have h1 := hall j hj
          have hj' : j < listed.size := by omega
          simp [hj'] at h0 h1
          rw [h0] at h1; simp at h1
      exact wpAny_done hr (done listed a w A μ I hsz hall s hI hQ) 0
    | succ fuel ih =>
      intro listed a w A μ I hsz hcnt hcl s hI hQ
      refine ⟨fun hr => ?_, fun j hj => ?_⟩
      · refine done listed a w A μ I hsz (fun k => ?_) s hI hQ
        induction k using Nat.strongRecOn with
        | _ k ihk =>
          intro hk
          have hkl : k < listed.size := by omega
          cases hv : listed[k] with
          | true => simp [hkl, hv]
          | false =>
            have : k ∈ Region.ready .any ops listed := by
              refine mem_ready.2 ⟨by simp [hkl, hv], ops[k], Array.getElem?_eq_getElem hk, fun e he hb => ?_⟩
              have := hback k _ (by rw [Array.getElem?_toList]; exact Array.getElem?_eq_getElem hk) e he hb
              exact ihk e.on this (by omega)
            rw [hr] at this; simp at this
      · obtain ⟨h0, o, ho, hafter⟩ := mem_ready.1 hj
        have hjn : j < ops.size := (Array.getElem?_eq_some_iff.1 ho).1
        have hjl : j < listed.size := by omega
        have hjf : listed[j] = false := by simpa [hjl] using h0
        have hjS : listed.getD j false = false := by simp [hjl, hjf]
        obtain ⟨rc, hrcj, hok1⟩ := f2 j o (by simpa using ho)
        obtain ⟨m, hmj, hbits⟩ := hmask j o (by simpa using ho)
        -- what an operation waits for is done
        have hdone : ∀ i, m.testBit i = true → listed.getD i false = true := fun i hi => by
          obtain ⟨e, he, hb, q | ⟨m', q1, q2⟩⟩ := hbits i hi
          · rw [← q]; exact hafter e he hb
          · exact hcl e.on (hafter e he hb) m' q1 i q2
        have hearly : ∀ (i : Nat) (x : Oper) (ra : Rec), i < j → listed.getD i false = false → ops[i]? = some x → rs[i]? = some ra → Cm ops.toList x o ra rc := fun i x ra hij hi hx hra => by
          refine hpair i j x o ra rc m hij hx ho hra hrcj hmj ?_
          cases hbit : m.testBit i with
          | false => rfl
          | true => rw [hdone i hbit] at hi; simp at hi
        have hlate : ∀ (i : Nat) (x : Oper) (ra : Rec), j < i → listed.getD i false = true → ops[i]? = some x → rs[i]? = some ra → Cm ops.toList o x rc ra := fun i x ra hij hi hx hra => by
          obtain ⟨m', hmi, _⟩ := hmask i x (by simpa using hx)
          refine hpair j i o x rc ra m' hij ho hx hrcj hra hmi ?_
          cases hbit : m'.testBit j with
          | false => rfl
          | true => rw [hcl i hi m' hmi j hbit] at hjS; simp at hjS
        have hne : ∀ i, listed.getD i false ≠ Nat.blt i j → (i < j ∧ listed.getD i false = false) ∨ (j < i ∧ listed.getD i false = true) := fun i hi => by
          by_cases hij : i < j
          · left
            refine ⟨hij, ?_⟩
            cases hv : listed.getD i false with
            | false => rfl
            | true => rw [hv, show Nat.blt i j = true by simpa [Nat.blt_eq] using hij] at hi; simp at hi
          · right
            have hbl : Nat.blt i j = false := by
              cases hv : Nat.blt i j with
              | false => rfl
              | true => exact absurd (by simpa [Nat.blt_eq] using hv) hij
            rw [hbl] at hi
            have hv : listed.getD i false = true := by cases hv : listed.getD i false <;> simp_all
            refine ⟨?_, hv⟩
            rcases Nat.lt_or_ge j i with q | q
            · exact q
            · have : i = j := by omega
              subst this; rw [hjS] at hv; simp at hv
        have htm : ∀ t, t ∈ usesOf ops.toList o → foldS tw 0 (fun k => listed.getD k false) tm t = foldS tw 0 (fun k => Nat.blt k j) tm t := fun t ht => by
          refine foldS_agree rfl fun i g hi hd => ?_
          rw [Nat.zero_add] at hd
          obtain ⟨x, ra, q1, q2, rfl⟩ := tws_get hi
          have q1' : ops[i]? = some x := by simpa using q1
          simp only [wT]
          rw [if_neg]
          intro hdst
          rcases hne i hd with ⟨r1, r2⟩ | ⟨r1, r2⟩
          · exact ((hearly i x ra r1 r2 q1' q2).xu t hdst).1 ht
          · exact (hlate i x ra r1 r2 q1' q2).yu t hdst ht
        have hhp : ∀ id, id ∈ rc.lg → foldS hw 0 (fun k => listed.getD k false) h id = foldS hw 0 (fun k => Nat.blt k j) h id := fun id hid => by
          refine foldS_agree rfl fun i g hi hd => ?_
          rw [Nat.zero_add] at hd
          obtain ⟨ra, q2, rfl⟩ := hws_get hi
          have hin : i < ops.size := by have := (List.getElem?_eq_some_iff.1 q2).1; rw [f1] at this; simpa using this
          refine assoc_keys fun hmem => ?_
          rcases hne i hd with ⟨r1, r2⟩ | ⟨r1, r2⟩
          · exact ((hearly i _ ra r1 r2 (Array.getElem?_eq_getElem hin) q2).wr id hmem).1 hid
          · exact (hlate i _ ra r1 r2 (Array.getElem?_eq_getElem hin) q2).rw id hmem hid
        have hok2 : RecOK nt tt es T c ops.toList j o (foldS tw 0 (fun k => listed.getD k false) tm) (foldS hw 0 (fun k => listed.getD k false) h) rc := by
          obtain ⟨hd, hrest⟩ := hok1
          refine ⟨hd, ?_⟩
          rw [gst_agree htm]
          rcases hrest with ⟨hg, d⟩ | q
          · refine .inl ⟨hg, ?_⟩
            have he : o.op.operands.toList.map (evF (foldS tw 0 (fun k => listed.getD k false) tm)) = o.op.operands.toList.map (evF (foldS tw 0 (fun k => Nat.blt k j) tm)) :=
              List.map_congr_left fun x hx => evF_agree fun t e => htm t (by subst e; exact List.mem_append_left _ (List.mem_filterMap.2 ⟨.tmp t, hx, rfl⟩))
            rw [he]
            exact d.congr hhp
          · exact .inr q
        refine step_op (c := c) hok hT ho s hok2 (fun id h1 h2 h3 => ?_) fun a' w' A' μ' I' s' E hI' => ?_
        · rcases hI id h3 with q | ⟨k, q1, q2, q3⟩
          · omega
          · have : k ≠ j := fun e => by subst e; rw [hjS] at q1; simp at q1
            omega
        have hset : ∀ k, (listed.setIfInBounds j true).getD k false = if k = j then true else listed.getD k false := fun k => by
          by_cases e : k = j
          · subst e; simp [hjl]
          · rw [getD_set_ne false (fun h => e h.symm)]; simp [e]
        have hle : ∀ k, listed.getD k false = true → (listed.setIfInBounds j true).getD k false = true := fun k hk => by rw [hset]; split <;> simp [hk]
        have et : putF (foldS tw 0 (fun k => listed.getD k false) tm) o.dst rc.v = foldS tw 0 (fun k => (listed.setIfInBounds j true).getD k false) tm := by
          rw [putF_ov]; funext x
          have hgj : tw[j]? = some (wT o.dst rc.v) := by
            simp only [tw, tws, List.getElem?_zipWith, hrcj]
            rw [show ops.toList[j]? = some o by simpa using ho]
          simp only [ov]
          cases hx : wT o.dst rc.v x with
          | some y =>
            refine (foldS_last hgj hx (by rw [Nat.zero_add, hset]; simp) fun i g hij hi hs => ?_).symm
            rw [Nat.zero_add, hset, if_neg (by omega)] at hs
            obtain ⟨z, ra, q1, q2, rfl⟩ := tws_get hi
            simp only [wT] at hx ⊢
            split at hx
            · rename_i hd
              rw [if_neg ((hlate i z ra hij hs (by simpa using q1) q2).xu x hd).2]
            · simp at hx
          | none =>
            refine foldS_agree rfl fun i g hi hd => ?_
            rw [Nat.zero_add, hset] at hd
            by_cases e : i = j
            · subst e
              rw [hgj] at hi
              rw [← Option.some.inj hi]; exact hx
            · simp [e] at hd
        have eh : upd (foldS hw 0 (fun k => listed.getD k false) h) rc.u = foldS hw 0 (fun k => (listed.setIfInBounds j true).getD k false) h := by
          rw [upd_ov]; funext x
          have hgj : hw[j]? = some (wH rc.u) := by simp only [hw, hws, List.getElem?_map, hrcj, Option.map_some]
          simp only [ov]
          cases hx : wH rc.u x with
          | some y =>
            refine (foldS_last hgj hx (by rw [Nat.zero_add, hset]; simp) fun i g hij hi hs => ?_).symm
            rw [Nat.zero_add, hset, if_neg (by omega)] at hs
            obtain ⟨ra, q2, rfl⟩ := hws_get hi
            have hin : i < ops.size := by have := (List.getElem?_eq_some_iff.1 q2).1; rw [f1] at this; simpa using this
            exact assoc_keys ((hlate i _ ra hij hs (Array.getElem?_eq_getElem hin) q2).wr x (keys_assoc hx)).2
          | none =>
            refine foldS_agree rfl fun i g hi hd => ?_
            rw [Nat.zero_add, hset] at hd
            by_cases e : i = j
            · subst e
              rw [hgj] at hi
              rw [← Option.some.inj hi]; exact hx
            · simp [e] at hd
        rw [et, eh] at s'
        refine ih _ _ _ _ _ _ (by simpa using hsz) ?_ ?_ s' ?_ fun a2 w2 A2 μ2 I2 s2 E2 hI2 => hQ _ _ _ _ _ s2 (E.trans (by rw [eh]; exact E2)) hI2
        · have := count_set (l := listed.toList) (i := j) (by simp [hjl, hjf])
          rw [Array.toList_setIfInBounds]
          omega
        · intro k hk m' hmk i hi
          rw [hset] at hk
          split at hk
          · rename_i e; subst e
            rw [hmj] at hmk; obtain rfl := Option.some.inj hmk
            exact hle i (hdone i hi)
          · exact hle i (hcl k hk m' hmk i hi)
        · intro id hid
          rcases hI' id hid with q | q
          · rcases hI id q with q | ⟨k, q1, q2⟩
            · exact .inl q
            · exact .inr ⟨k, hle k q1, q2⟩
          · exact .inr ⟨j, by rw [hset]; simp, q⟩
  refine wp_region_any hm ?_
  have hS : (fun k => (Array.replicate ops.size false).getD k false) = fun _ => false := by
    funext k
    by_cases hk : k < ops.size
    · simp [hk]
    · simp [Nat.le_of_not_lt hk]
  have e1 : foldS tw 0 (fun k => (Array.replicate ops.size false).getD k false) tm = tm := by
    rw [hS]; funext x; exact foldS_keep fun i g _ hs => by simp at hs
  have e2 : foldS hw 0 (fun k => (Array.replicate ops.size false).getD k false) h = h := by
    rw [hS]; funext x; exact foldS_keep fun i g _ hs => by simp at hs
  have st : Step w A μ I h { w with drawn := w.drawn + 1 } A μ I h (fun _ => False) :=
    ⟨fun _ _ => ⟨rfl, rfl⟩, Nat.le_refl _, fun _ _ _ => rfl, fun _ _ ha => ⟨ha, rfl⟩, fun _ _ ha => .inl ha, fun _ h => h, fun _ _ hf => hf.elim, fun _ _ hp => hp, fun _ _ hf => hf.elim, fun _ hf => hf.elim, fun _ _ _ _ _ _ hf => hf.elim, fun b o ha => s.wr.ac b o ha, ⟨rfl, rfl, rfl⟩⟩
  refine main ops.size _ a _ A μ I (by simp) (by simp) (fun k hk => ?_) ?_ (fun id hid => .inl (hI id hid)) ?_
  · have h' : (Array.replicate ops.size false).getD k false = false := congrFun hS k
    rw [h'] at hk; simp at hk
  · rw [e1, e2]; exact ⟨fun t v ht => (s.tm t v ht).mono st.kp, st.wr s.wr, s.sz, s.df⟩
  · rw [e2]; intro a' w' A' μ' I' s' E hI'
    exact hQ _ _ _ _ _ s' (st.ev.trans E) hI'
end
end Ab
namespace Ab
open Go

def Ends (P : Program) (f : Nat) (R : Value → World → Prop) (a : Act) (todo : List Item) (w : World) : Prop :=
  ∀ (b : Frame) (cs : List Frame), b.fn = f → b.kind = .normal → ∃ v w' fr, R v w' ∧ Steps P (lone (b.at a todo) cs w) (lone fr cs w') ∧ fr.fn = f ∧ fr.leaving P w' (.returned v)

section
variable {P : Program} {f : Nat} {fn : Func} {R : Value → World → Prop} {a a' : Act} {todo todo' k : List Item} {w w' : World}

theorem Ends.step (hs : ∀ (b : Frame) cs, step P (lone (b.at a todo) cs w) = .next (lone (b.at a' todo') cs w')) (h : Ends P f R a' todo' w') : Ends P f R a todo w := fun b cs hb hk => by
  obtain ⟨v, w2, fr, h1, h2, h3⟩ := h b cs hb hk
  exact ⟨v, w2, fr, h1, .head (hs b cs) h2, h3⟩

theorem Ends.ret {v : Value} (hfn : P.funcs[f]? = some fn) (hr : (results fn a.tmps).run P w = .ok v w) (hd : a.defers = []) (hR : R v w) : Ends P f R a (.code .ret :: k) w := fun b cs hb hk => by
  refine ⟨v, w, _, hR, .one step_ret, hb, rfl, hd, hk, fn, ?_, hr⟩
  show P.funcs[b.fn]? = some fn
  rw [hb]; exact hfn

theorem Ends.fall {v : Value} (hfn : P.funcs[f]? = some fn) (hr : (results fn a.tmps).run P w = .ok v w) (hd : a.defers = []) (hR : R v w) : Ends P f R a [] w := fun b cs hb hk => by
  refine ⟨v, w, _, hR, .one step_end, hb, rfl, hd, hk, fn, ?_, hr⟩
  show P.funcs[b.fn]? = some fn
  rw [hb]; exact hfn

theorem Ends.region {id : Nat} {ops : Array Oper} {d : Bool} (h : (Code.region id ops d).wp P (fun e a' w' => e = .normal ∧ Ends P f R a' k w') a w) : Ends P f R a (.code (.region id ops d) :: k) w := fun b cs hb hk => by
  obtain ⟨e, a', w', ⟨rfl, h1⟩, h2⟩ := h b k cs
  obtain ⟨v, w2, fr, q1, q2, q3⟩ := h1 b cs hb hk
  exact ⟨v, w2, fr, q1, Steps.trans h2 q2, q3⟩

theorem Ends.calls {c : Code} {args : Array Value} {Q : Ending → World → Prop} (hfn : P.funcs[f]? = some fn) (hb : fn.body = some c)
    (h : Ends P f R ⟨args ++ Array.replicate (fn.ntmps - args.size) undef, []⟩ [.code c] w) (hQ : ∀ v w', R v w' → Q (.returned v) w') : Calls P f args w Q := fun cs => by
  let b : Frame := { (default : Frame) with fn := f, kind := .normal }
  have henter : Frame.enter P f args .normal = b.at { tmps := args ++ Array.replicate (fn.ntmps - args.size) undef, defers := [] } [.code c] := by
    simp [Frame.enter, Frame.at, hfn, hb, b]
  obtain ⟨v, w', fr, h1, h2, h3, h4⟩ := h b cs rfl rfl
  exact ⟨.returned v, w', fr, hQ v w' h1, by rw [henter]; exact h2, h3, h4⟩

theorem run_mapM {α β : Type} {g : α → Sem β} : ∀ {xs : List α} {vs : List β}, vs.length = xs.length → (∀ (i : Nat) (x : α) (v : β), xs[i]? = some x → vs[i]? = some v → (g x).run P w = .ok v w) → (xs.mapM g).run P w = .ok vs w
  | [], vs, hl, _ => by
    have : vs = [] := by simpa using hl
    subst this; simp
  | x :: xs, [], hl, _ => by simp at hl
  | x :: xs, v :: vs, hl, hf => by
    have h1 := hf 0 x v rfl rfl
    have h2 := run_mapM (xs := xs) (vs := vs) (by simpa using hl) fun i x' v' hx hv => hf (i + 1) x' v' (by simpa using hx) (by simpa using hv)
    simp [List.mapM_cons, h1, h2]
end

def Post (ent : Ent) (w0 : World) (A0 : Am) (μ0 : Mu) (h0 : Hf) (ys : List V) (v : Value) (w' : World) : Prop :=
  ∃ A' μ' rv r2 u', plug id ent.res ys = some (rv, r2) ∧ plugO id (fun _ => 0) 0 ent.outs r2 = some u' ∧ RV w' A' μ' (fun i => i < ent.outs.length) v rv ∧
    WR w' A' μ' (fun i => i < ent.outs.length) (upd (fun _ => none) u') ∧ EvF ent.objs.length w0 A0 μ0 h0 w' A' μ' (upd (fun _ => none) u')

structure EOk (P : Program) (E : Env) (fn : Func) : Prop where
  hfn : P.funcs[E.ent.f]? = some fn
  nt : fn.ntmps = E.nt
  res : fn.results.toList = E.res
  tt : ttOk P E.tt = true
  mixed : P.follows .mixedOrders = true
  cuts : ∀ ct ∈ E.cuts, E.ent.objs.length ≤ ct.objs.length
  C : E.C.ok (TOk P E.es)
  rs : E.rs.all noPair = true

theorem preIds_at : ∀ {m j : Nat} {os : List OPat} {k : Nat} {op : OPat}, os[k]? = some op → op ≠ .dead → k < m → assoc (j + k) (preIds m j os) = some (j + k)
  | 0, _, _, _, _, _, _, hk => by omega
  | m + 1, j, [], k, op, ho, _, _ => by simp at ho
  | m + 1, j, o :: os, 0, op, ho, hn, _ => by
    simp only [List.getElem?_cons_zero, Option.some.injEq] at ho
    subst ho
    cases o <;> first | exact absurd rfl hn | simp [preIds, assoc]
  | m + 1, j, o :: os, k + 1, op, ho, hn, hk => by
    have ih := preIds_at (m := m) (j := j + 1) (os := os) (k := k) (op := op) (by simpa using ho) hn (by omega)
    rw [show j + 1 + k = j + (k + 1) by omega] at ih
    have hb : Nat.beq j (j + (k + 1)) = false := by
      cases hb : Nat.beq j (j + (k + 1)) with
      | true => have := Nat.eq_of_beq_eq_true hb; omega
      | false => rfl
    cases o <;> simp only [preIds, assoc, hb, cond_false] <;> exact ih

section
variable {P : Program} {w : World} {A : Am} {μ : Mu} {I : Nat → Prop} {h : Hf} {T : Nat → List V → List V → Prop} {w0 : World} {A0 : Am} {μ0 : Mu} {h0 : Hf} {m : Nat}

/-- a state is matched again -/
theorem cut_sound (W : WR w A μ I h) {ps : List Pat} {os : List OPat} {xs : List V} {us : List Value} {b : MB} (hr : RVs w A μ I us xs) (hd : Dn T h (matchA (preIds m 0 os) ps os xs) b) (ev : EvF m w0 A0 μ0 h0 w A μ h) :
    ∃ A1 μ1 vs r u, plugs id ps b.fill = some (vs, r) ∧ plugO id (fun _ => 0) 0 os r = some u ∧ RVs w A1 μ1 (fun i => i < os.length) us vs ∧ WR w A1 μ1 (fun i => i < os.length) (upd (fun _ => none) u) ∧
      EvF m w0 A0 μ0 h0 w A1 μ1 (upd (fun _ => none) u) := by
  obtain ⟨con, A2, μ2, vs, r, u, W2, E2, hcon, hfz, K, m2, l2, p1, p2, rvs, Wc, ⟨ul, uf⟩, hown, hdead, g, hg⟩ := match_sound W hr hd
  refine ⟨_, _, vs, r, u, p1, p2, rvs, Wc, ev.trans ⟨Nat.le_refl _, fun _ _ _ => rfl, fun k o ha => ⟨.inl (E2.im k o ha).1, rfl⟩, fun k hk => ?_, fun k o ha => ?_, fun i L hi hL => ?_, fun _ _ hp => hp, SW.refl⟩⟩
  · obtain ⟨i, id, o2, L2, _, q2, q3, q4⟩ := hown k hk
    exact E2.own k ⟨id, o2, L2, q2, q3, q4⟩
  · rcases ha with ha | ⟨e, he, o2, L, q1, q2, q3, _⟩
    · exact E2.imb k o ha
    · exact .inr (.inl ⟨e.1, o2, L, q1, q2, q3⟩)
  · by_cases hl : i < os.length
    · cases hop : os[i] with
      | dead =>
        have hnone : upd (fun _ => none) u i = none := by
          obtain ⟨o', r1, r2⟩ := uf i _ (List.getElem?_eq_getElem hl)
          rw [hop] at r2
          simp only [OFact] at r2
          have := assoc_idx (u := u) (i := 0) (fun k e he => by
            have hk : k < os.length := by rw [← ul]; exact (List.getElem?_eq_some_iff.1 he).1
            obtain ⟨o', r1, _⟩ := uf k _ (List.getElem?_eq_getElem hk)
            rw [he] at r1; rw [Option.some.inj r1, Nat.zero_add]) i
          rw [Nat.zero_add] at this
          simp only [upd, this, r1, Option.map_some, r2]
        rw [Wc.no i hnone] at hL; simp at hL
      | _ =>
        have ha : assoc i b.ids = some i := by
          rw [hg, assoc_append]
          have := preIds_at (m := m) (j := 0) (os := os) (k := i) (List.getElem?_eq_getElem hl) (by rw [hop]; simp) hi
          rw [Nat.zero_add] at this
          rw [this]; rfl
        simp only [canMu, ha, Option.map_eq_some_iff] at hL
        obtain ⟨L2, q1, rfl⟩ := hL
        exact l2 i L2 q1
    · have h1 : assoc i b.ids = none := by
        cases ha : assoc i b.ids with
        | none => rfl
        | some id => exact absurd (K.bi _ (assoc_mem ha)) hl
      have h2 : assoc i b.mt = none := by
        cases ha : assoc i b.mt with
        | none => rfl
        | some id => exact absurd (K.bm _ (assoc_mem ha)) hl
      simp [canMu, h1, h2] at hL

theorem assoc_zip {f : Nat → Value} : ∀ {sl : List Nat} {vs : List V} {t : Nat} {v : V}, RVs w A μ I (sl.map f) vs → assoc t (sl.zip vs) = some v → RV w A μ I (f t) v
  | [], vs, t, v, _, ha => by simp [assoc] at ha
  | s :: sl, vs, t, v, hr, ha => by
    cases hr with
    | cons h1 h2 =>
      simp only [List.zip_cons_cons, assoc] at ha
      cases hb : Nat.beq s t with
      | true =>
        have := Nat.eq_of_beq_eq_true hb
        subst this
        simp only [hb, cond_true, Option.some.injEq] at ha
        subst ha; exact h1
      | false => simp only [hb, cond_false] at ha; exact assoc_zip h2 ha

theorem get_none (u : List (Nat × Option Obj)) : Hp.get u = upd (fun _ => none) u := by
  funext id; simp only [Hp.get, upd]; cases assoc id u <;> simp

/-- lists of values of known types -/
theorem decL_inv : ∀ {ts : List Ty} {ys : List V} {a : PD ts}, Vs ys → ts.all noPair = true → decL ts ys = some a → ys = encL ts a := by
  have one : ∀ {t : Ty} {y : V} {ys r : List V} {x : t.D}, (∃ (t : Ty) (d : t.D), y = .v t d) → noPair t = true → decT t (y :: ys) = some (x, r) → r = ys ∧ [y] = cellsOf t x := by
    intro t y ys r x ⟨t', d, hy⟩ hn hd
    subst hy
    cases t with
    | pair t u => simp [noPair] at hn
    | int k =>
      cases t' <;> simp only [decT, reduceCtorEq] at hd
      rename_i k'
      cases hb : Ab.IntKind.beq k k' with
      | true => have := beq_kind hb; subst this; simp only [hb, cond_true, Option.some.injEq, Prod.mk.injEq] at hd; obtain ⟨rfl, rfl⟩ := hd; exact ⟨rfl, rfl⟩
      | false => simp [hb] at hd
    | bool =>
      cases t' <;> simp only [decT, reduceCtorEq, Option.some.injEq, Prod.mk.injEq] at hd
      obtain ⟨rfl, rfl⟩ := hd; exact ⟨rfl, rfl⟩
    | str =>
      cases t' <;> simp only [decT, reduceCtorEq, Option.some.injEq, Prod.mk.injEq] at hd
      obtain ⟨rfl, rfl⟩ := hd; exact ⟨rfl, rfl⟩
    | list t =>
      cases t' <;> simp only [decT, reduceCtorEq] at hd
      split at hd
      · rename_i e
        subst e
        simp only [Option.some.injEq, Prod.mk.injEq] at hd
        obtain ⟨rfl, rfl⟩ := hd; exact ⟨rfl, rfl⟩
      · simp at hd
  intro ts
  induction ts with
  | nil =>
    intro ys a _ _ hd
    cases ys with
    | nil => rfl
    | cons => simp [decL] at hd
  | cons t ts ih =>
    intro ys a hv hn hd
    simp only [List.all_cons, Bool.and_eq_true] at hn
    cases ts with
    | nil =>
      simp only [decL, dec1] at hd
      split at hd
      · rename_i x hdt
        obtain rfl := Option.some.inj hd
        cases ys with
        | nil => cases t <;> simp [decT, noPair] at hdt hn
        | cons y ys =>
          obtain ⟨q1, q2⟩ := one (hv y (by simp)) hn.1 hdt
          subst q1
          simp only [encL]; exact q2
      · simp at hd
    | cons u ts =>
      simp only [decL] at hd
      split at hd
      · rename_i x r hdt
        split at hd
        · rename_i y hdl
          obtain rfl := Option.some.inj hd
          cases ys with
          | nil => cases t <;> simp [decT, noPair] at hdt hn
          | cons y0 ys =>
            obtain ⟨q1, q2⟩ := one (hv y0 (by simp)) hn.1 hdt
            subst q1
            have := ih (fun z hz => hv z (List.mem_cons_of_mem _ hz)) hn.2 hdl
            simp only [encL]
            rw [← q2, ← this]; rfl
        · simp at hd
      · simp at hd

end
end Ab
namespace Ab
open Go
section
variable {P : Program} {w : World} {A : Am} {μ : Mu} {I : Nat → Prop} {h : Hf} {T : Nat → List V → List V → Prop} {w0 : World} {A0 : Am} {μ0 : Mu} {h0 : Hf} {E : Env} {fn : Func} {a : Act} {tm : Tm}

def resRun (tmps : Array Value) : ResultVar → Sem Value
  | .tmp t => pure (tmps.getD t undef)
  | .cell a t => do loadVar t (← asAddr (tmps.getD a undef))

theorem resV_run (hok : ttOk P E.tt = true) {st : St} (s : Sr E.nt w A μ I a st.tmF st.h.get) {r : ResultVar} {v : V} (hr : resV E st r = some v) : ∃ x, (resRun a.tmps r).run P w = .ok x w ∧ RV w A μ I x v := by
  cases r with
  | tmp t =>
    simp only [resV] at hr
    exact ⟨a.eval (.tmp t), by simp [resRun, Act.eval], s.tm t v hr⟩
  | cell ad t =>
    simp only [resV] at hr
    split at hr
    · rename_i id z hp
      split at hr
      · rename_i cs hh
        cases hg : (Nat.beq cs.length (E.tt.get t).size && !Nat.beq (E.tt.get t).size 0) with
        | false => rw [hg] at hr; simp at hr
        | true =>
          rw [hg, cond_true] at hr
          simp only [Bool.and_eq_true, Bool.not_eq_true'] at hg
          have hsz := Nat.eq_of_beq_eq_true hg.1
          obtain ⟨f⟩ := tt_get hok (t := t) (fun e => by simp [e] at hg)
          have hv := s.tm ad _ hp
          generalize hX : a.eval (.tmp ad) = X at hv
          cases hv with
          | p hi hL =>
            obtain ⟨_, L, hμ, hob⟩ := s.wr.ok id _ hh
            obtain ⟨q1, q2, b, q3, rfl⟩ := hL L hμ
            obtain ⟨g1, g2, g3, b', us, g4, g5, g6, g7⟩ := hob
            rw [q3] at g4; obtain rfl := Option.some.inj g4
            have hX' : a.tmps.getD ad undef = .pointer (some ⟨b, 0 * z + 0, none⟩) := by simpa [Act.eval] using hX
            rw [Nat.zero_mul, Nat.add_zero] at hX'
            obtain ⟨x, h1, h2⟩ := loadAt_run f (b := b) (off := 0) (us := us) (by rw [g7.length, hsz]) (fun k hk => g6 k hk) g7 hr
            refine ⟨x, ?_, h2⟩
            simp only [Instr.loadAt, Instr.sureAddr, Sem.run_bind, Sem.run_pure, Result.andThen_ok] at h1
            simp only [resRun, hX', asAddr, Sem.run_bind, Sem.run_pure, Result.andThen_ok, h1]
      · simp at hr
    · simp at hr

theorem resVs_run (hok : ttOk P E.tt = true) {st : St} (s : Sr E.nt w A μ I a st.tmF st.h.get) : ∀ {rs : List ResultVar} {vs : List V}, resVs E st rs = some vs →
    ∃ xs, xs.length = rs.length ∧ (∀ (i : Nat) (r : ResultVar) (x : Value), rs[i]? = some r → xs[i]? = some x → (resRun a.tmps r).run P w = .ok x w) ∧ RVs w A μ I xs vs
  | [], vs, hr => by
    simp only [resVs, Option.some.injEq] at hr
    subst hr; exact ⟨[], rfl, fun i r x h => by simp at h, .nil⟩
  | r :: rs, vs, hr => by
    simp only [resVs] at hr
    split at hr
    · rename_i v vs' h1 h2
      obtain rfl := Option.some.inj hr
      obtain ⟨x, q1, q2⟩ := resV_run hok s h1
      obtain ⟨xs, q3, q4, q5⟩ := resVs_run hok s h2
      refine ⟨x :: xs, by simp [q3], fun i r' x' hi hx => ?_, .cons q2 q5⟩
      cases i with
      | zero => simp only [List.getElem?_cons_zero, Option.some.injEq] at hi hx; subst hi; subst hx; exact q1
      | succ i => exact q4 i r' x' (by simpa using hi) (by simpa using hx)
    · simp at hr

theorem resAll_run (ok : EOk P E fn) {st : St} (s : Sr E.nt w A μ I a st.tmF st.h.get) {v : V} (hr : resAll E st = some v) : ∃ x, (results fn a.tmps).run P w = .ok x w ∧ RV w A μ I x v := by
  have hres : ∀ vs, resVs E st E.res = some vs → ∃ xs, RVs w A μ I xs vs ∧ (results fn a.tmps).run P w = .ok (if h : xs.toArray.size = 1 then xs.toArray[0] else .tuple xs.toArray) w := by
    intro vs hvs
    obtain ⟨xs, q1, q2, q3⟩ := resVs_run ok.tt s hvs
    refine ⟨xs, q3, ?_⟩
    have h1 : (E.res.mapM (resRun a.tmps)).run P w = .ok xs w := run_mapM q1 q2
    have h2 : results fn a.tmps = (fn.results.mapM (resRun a.tmps) >>= fun vs => pure (if h : vs.size = 1 then vs[0] else .tuple vs)) := rfl
    rw [h2, Array.mapM_eq_mapM_toList, ok.res]
    simp [h1]
  simp only [resAll] at hr
  split at hr
  · rename_i v1 hvs
    obtain rfl := Option.some.inj hr
    obtain ⟨xs, q1, q2⟩ := hres _ hvs
    cases q1 with
    | cons r1 r2 => cases r2; exact ⟨_, q2, by simpa using r1⟩
  · rename_i vs hne hvs
    obtain rfl := Option.some.inj hr
    obtain ⟨xs, q1, q2⟩ := hres _ hvs
    have : xs.length ≠ 1 := fun e => by
      have := q1.length
      cases vs with
      | nil => simp at this; simp [this] at e
      | cons v vs =>
        cases vs with
        | nil => exact hne v rfl
        | cons => simp at this; omega
    rw [dif_neg (by simpa using this)] at q2
    exact ⟨_, q2, .tup q1⟩
  · simp at hr

theorem fin_sound (ok : EOk P E fn) {st : St} {r : PD E.rs} (s : Sr E.nt w A μ I a st.tmF st.h.get) (ev : EvF E.ent.objs.length w0 A0 μ0 h0 w A μ st.h.get) (hr : fin E st = some r) :
    ∃ x, (results fn a.tmps).run P w = .ok x w ∧ Post E.ent w0 A0 μ0 h0 (encL E.rs r) x w := by
  simp only [fin] at hr
  split at hr
  · rename_i v hv
    obtain ⟨x, h1, h2⟩ := resAll_run ok s hv
    obtain ⟨b, lg, d, hdec⟩ := runK_dn ok.C _ _ _ _ hr
    obtain ⟨A1, μ1, vs, r2, u, q1, q2, q3, q4, q5⟩ := cut_sound s.wr (RVs.cons h2 .nil) d.dn ev
    have hfill := decL_inv (matchA_vs d.dn) ok.rs hdec
    rw [hfill] at q1
    simp only [plugs] at q1
    split at q1
    · rename_i c r' hp
      simp only [Option.some.injEq, Prod.mk.injEq] at q1
      obtain ⟨rfl, rfl⟩ := q1
      cases q3 with
      | cons q3 _ => exact ⟨x, h1, A1, μ1, c, r', u, hp, q2, q3, q4, q5⟩
    · simp at q1
  · simp at hr

/-- what a run of the evaluator means -/
def StOK (P : Program) (E : Env) (w0 : World) (A0 : Am) (μ0 : Mu) (h0 : Hf) (todo : List Item) (st : St) (r : PD E.rs) : Prop :=
  ∀ (w : World) (A : Am) (μ : Mu) (I : Nat → Prop) (a : Act), Sr E.nt w A μ I a st.tmF st.h.get → (∀ id, I id → id < st.c) → (∀ i, i < E.ent.objs.length → I i) →
    EvF E.ent.objs.length w0 A0 μ0 h0 w A μ st.h.get → Ends P E.ent.f (Post E.ent w0 A0 μ0 h0 (encL E.rs r)) a todo w

theorem findCut_mem {id : Nat} : ∀ {cs : List Cut} {c : Cut}, findCut id cs = some c → c ∈ cs
  | [], _, h => by simp [findCut] at h
  | c0 :: cs, c, h => by
    simp only [findCut] at h
    cases hb : Nat.beq c0.id id with
    | true => rw [hb, cond_true] at h; obtain rfl := Option.some.inj h; simp
    | false => rw [hb, cond_false] at h; exact List.mem_cons_of_mem _ (findCut_mem h)

theorem region_ends (ok : EOk P E fn) {R : Value → World → Prop} {id : Nat} {ops : Array Oper} {draw : Bool} {k : List Item} {st : St} {ρ : Type} {K : St → Option ρ} {r : ρ}
    (s : Sr E.nt w A μ I a st.tmF st.h.get) (hI : ∀ id, I id → id < st.c)
    (hr : ∀ st', K st' = some r → st'.c = st.c + 8 * ops.size → ∀ (w' : World) (A' : Am) (μ' : Mu) (I' : Nat → Prop) (a' : Act), Sr E.nt w' A' μ' I' a' st'.tmF st'.h.get → Ev w A μ I st.h.get w' A' μ' I' st'.h.get →
        (∀ id, I' id → id < st'.c) → Ends P E.ent.f R a' k w')
    {C : CT ρ} (hC : C.ok (TOk P E.es)) (hg : regK E.nt E.tt E.es C ops.toList ops.toList 0 st [] (fun st' tr => bif (!draw || commB ops.toList tr.reverse) then K { st' with c := st.c + 8 * ops.toList.length } else none) = some r) :
    Ends P E.ent.f R a (.code (.region id ops draw) :: k) w := by
  obtain ⟨rs, st', tr', htr, hc, hK, tr1, e1, hlog⟩ := regK_tr hC _ _ _ _ _ _ hg
  rw [List.append_nil] at e1
  subst e1
  rw [List.reverse_reverse] at hK
  cases hd : (!draw || commB ops.toList tr1) with
  | false => rw [hd] at hK; simp at hK
  | true =>
    rw [hd, cond_true] at hK
    have fin : ∀ a' w' A' μ' I', Sr E.nt w' A' μ' I' a' st'.tmF st'.h.get → Ev w A μ I st.h.get w' A' μ' I' st'.h.get → (∀ id, I' id → id < st.c + 8 * ops.size) → Ends P E.ent.f R a' k w' := fun a' w' A' μ' I' s' e' hI' =>
      hr _ hK (by simp) w' A' μ' I' a' s' e' (by simpa using hI')
    refine .region ?_
    cases draw with
    | false =>
      refine wp_region ?_
      have := wp_plain (Q := fun e a' w' => e = .normal ∧ Ends P E.ent.f R a' k w') ok.tt (fun _ _ _ h => h) htr (fun k o hk => by simpa using hk) s (by simpa using hI) fun a' w' A' μ' I' s' e' hI' =>
        ⟨rfl, fin a' w' A' μ' I' s' e' (by simpa using hI')⟩
      rw [Array.length_toList] at this
      rw [List.range_eq_range']; exact this
    | true =>
      simp only [Bool.not_true, Bool.false_or] at hd
      exact wp_any ok.tt (fun _ _ _ h => h) ok.mixed htr hlog hd s hI fun a' w' A' μ' I' s' e' hI' => ⟨rfl, fin a' w' A' μ' I' s' e' hI'⟩

theorem run_succ (R : List Item → St → Option (PD E.rs)) (n : Nat) (first : Bool) (todo : List Item) (st : St) : run E R (n + 1) first todo st =
    match todo with
    | [] => fin E st
    | .inBlock _ :: k => run E R n first k st
    | .inLoop c :: k => run E R n first (.code c :: .inLoop c :: k) st
    | .code c :: k => match c with
      | .skip => run E R n first k st
      | .seq a b => run E R n first (.code a :: .code b :: k) st
      | .block id c => run E R n first (.code c :: .inBlock id :: k) st
      | .loop c => run E R n first (.code c :: .inLoop c :: k) st
      | .ret => fin E st
      | .exit id => match exitTo id k with
        | some k' => run E R n first k' st
        | none => none
      | .cond c x y => match st.ev c with
        | .v .bool b => bif b then run E R n first (.code x :: k) st else run E R n first (.code y :: k) st
        | .nilq e => agree e (run E R n first (.code x :: k) st) (run E R n first (.code y :: k) st)
        | _ => none
      | .region id ops draw =>
        bif first then regK E.nt E.tt E.es E.C ops.toList ops.toList 0 st [] fun st' tr =>
          bif (!draw || commB ops.toList tr.reverse) then run E R n false k { st' with c := st.c + 8 * ops.toList.length } else none
        else match findCut id E.cuts with
          | none => regK E.nt E.tt E.es E.C ops.toList ops.toList 0 st [] fun st' tr =>
            bif (!draw || commB ops.toList tr.reverse) then run E R n false k { st' with c := st.c + 8 * ops.toList.length } else none
          | some ct => M.runK E.C st.h.get (matchA (preIds E.ent.objs.length 0 ct.objs) (ct.slots.map (·.2)) ct.objs (slotsOf ct st)) [] fun b _ =>
            match mkSt ct b.fill with
              | some st' => R (.code c :: k) st'
              | none => none
      | _ => none
    | _ => none := by
  cases todo with
  | nil => rfl
  | cons x k => cases x <;> first | rfl | (rename_i c; cases c <;> rfl)

end
end Ab
namespace Ab
open Go
section
variable {P : Program} {w0 : World} {A0 : Am} {μ0 : Mu} {h0 : Hf} {E : Env} {fn : Func}

theorem run_sound (ok : EOk P E fn) {R : List Item → St → Option (PD E.rs)} (hR : ∀ todo st r, R todo st = some r → StOK P E w0 A0 μ0 h0 todo st r) :
    ∀ (n : Nat) (first : Bool) (todo : List Item) (st : St) (r : PD E.rs), run E R n first todo st = some r → StOK P E w0 A0 μ0 h0 todo st r := by
  intro n
  induction n with
  | zero => intro first todo st r hr; simp [run] at hr
  | succ n ih =>
    intro first todo st r hr w A μ I a s hI hm ev
    rw [run_succ] at hr
    have reg : ∀ {id : Nat} {ops : Array Oper} {draw : Bool} {k : List Item}, regK E.nt E.tt E.es E.C ops.toList ops.toList 0 st [] (fun st' tr =>
        bif (!draw || commB ops.toList tr.reverse) then run E R n false k { st' with c := st.c + 8 * ops.toList.length } else none) = some r →
        Ends P E.ent.f (Post E.ent w0 A0 μ0 h0 (encL E.rs r)) a (.code (.region id ops draw) :: k) w := fun {id ops draw k} hg =>
      region_ends ok s hI (fun st' hK _ w' A' μ' I' a' s' e' hI' => ih false k st' r hK w' A' μ' I' a' s' hI' (fun i hi => e'.ids i (hm i hi)) (ev.trans (e'.evF hm))) ok.C hg
    cases todo with
    | nil =>
      obtain ⟨x, h1, h2⟩ := fin_sound ok s ev hr
      exact .fall ok.hfn h1 s.df h2
    | cons x k =>
      cases x with
      | inBlock id => exact .step (fun b cs => step_inBlock) (ih _ _ _ _ hr w A μ I a s hI hm ev)
      | inLoop c => exact .step (fun b cs => step_inLoop) (ih _ _ _ _ hr w A μ I a s hI hm ev)
      | code c =>
        cases c with
        | skip => exact .step (fun b cs => step_skip) (ih _ _ _ _ hr w A μ I a s hI hm ev)
        | seq x y => exact .step (fun b cs => step_seq) (ih _ _ _ _ hr w A μ I a s hI hm ev)
        | block id c => exact .step (fun b cs => step_block) (ih _ _ _ _ hr w A μ I a s hI hm ev)
        | loop c => exact .step (fun b cs => step_loop) (ih _ _ _ _ hr w A μ I a s hI hm ev)
        | ret =>
          obtain ⟨x, h1, h2⟩ := fin_sound ok s ev hr
          exact .ret ok.hfn h1 s.df h2
        | exit id =>
          simp only at hr
          split at hr
          · rename_i k' hk
            exact .step (fun b cs => step_exit hk) (ih _ _ _ _ hr w A μ I a s hI hm ev)
          · simp at hr
        | cond c x y =>
          simp only at hr
          have hc := s.ev c
          rw [ev_F] at hr
          split at hr
          · rename_i q hq
            rw [hq] at hc
            have hb := rv_bool hc
            cases q with
            | true => exact .step (fun b cs => step_cond hb) (ih _ _ _ _ (by simpa using hr) w A μ I a s hI hm ev)
            | false => exact .step (fun b cs => step_cond hb) (ih _ _ _ _ (by simpa using hr) w A μ I a s hI hm ev)
          · rename_i e hq
            rw [hq] at hc
            obtain ⟨q, hb, hqe⟩ : ∃ q, a.eval c = .bool q ∧ (q = true → e = true) := by
              generalize a.eval c = X at hc
              cases hc with | nilq hh => exact ⟨_, rfl, hh⟩
            cases e with
            | true =>
              simp only [agree, cond_true] at hr
              split at hr
              · rename_i heq
                cases q with
                | true => exact .step (fun b cs => step_cond hb) (ih _ _ _ _ hr w A μ I a s hI hm ev)
                | false => exact .step (fun b cs => step_cond hb) (ih _ _ _ _ (heq ▸ hr) w A μ I a s hI hm ev)
              · simp at hr
            | false =>
              have : q = false := by cases q with
                | true => exact absurd (hqe rfl) (by simp)
                | false => rfl
              subst this
              simp only [agree, cond_false] at hr
              exact .step (fun b cs => step_cond hb) (ih _ _ _ _ hr w A μ I a s hI hm ev)
          · simp at hr
        | region id ops draw =>
          simp only at hr
          cases first with
          | true => rw [cond_true] at hr; exact reg hr
          | false =>
            rw [cond_false] at hr
            split at hr
            · exact reg hr
            · rename_i ct hct
              obtain ⟨b, lg, d, hk⟩ := runK_dn ok.C _ _ _ _ hr
              have hus : RVs w A μ I ((ct.slots.map (·.1)).map fun t => a.eval (.tmp t)) (slotsOf ct st) := by
                have := s.evs (ct.slots.map fun q => Operand.tmp q.1)
                simpa [slotsOf, evF, St.tmF, List.map_map, Function.comp_def] using this
              obtain ⟨A1, μ1, vs, r2, u, q1, q2, q3, q4, q5⟩ := cut_sound s.wr hus d.dn ev
              have hmk : mkSt ct b.fill = some ⟨(ct.slots.map (·.1)).zip vs, u, ct.objs.length⟩ := by simp only [mkSt, q1, q2]
              rw [hmk] at hk
              refine hR _ _ _ hk w A1 μ1 (fun i => i < ct.objs.length) a ⟨fun t v ht => assoc_zip q3 ht, ?_, s.sz, s.df⟩ (fun id hid => hid) (fun i hi => Nat.lt_of_lt_of_le hi (ok.cuts ct (findCut_mem hct))) ?_
              · rw [get_none]; exact q4
              · rw [get_none]; exact q5
        | _ => simp at hr
      | _ => simp at hr

theorem FF_sound (ok : EOk P E fn) : ∀ (k : Nat) (todo : List Item) (st : St) (r : PD E.rs), FF E k todo st = some r → StOK P E w0 A0 μ0 h0 todo st r
  | 0, todo, st, r, hr => by simp [FF] at hr
  | k + 1, todo, st, r, hr => run_sound ok (fun todo st r h => FF_sound ok k todo st r h) _ _ _ _ _ hr

theorem good_of (ok : EOk P E fn) {body : Code} (hb : fn.body = some body) (hargs0 : Nat.ble E.ent.args.length E.nt = true) {k : Nat} {xs : List V} {r : PD E.rs} (hr : FF E k [.code body] (stA E xs) = some r) : Good P E.ent xs (encL E.rs r) := by
  have hargs := Nat.le_of_ble_eq_true hargs0
  intro w A μ us vs r1 u hp hO hus W
  have hst : stA E xs = ⟨(List.range vs.length).zip vs, u, E.ent.objs.length⟩ := by simp only [stA, st0, hp, hO, Option.getD_some]
  rw [hst] at hr
  have hlen := hus.length
  have hvl : vs.length = E.ent.args.length := by
    have : ∀ (ps : List Pat) (ys vs r : List V), plugs id ps ys = some (vs, r) → vs.length = ps.length := by
      intro ps
      induction ps with
      | nil => intro ys vs r h; simp only [plugs, Option.some.injEq, Prod.mk.injEq] at h; rw [← h.1]; rfl
      | cons p ps ih =>
        intro ys vs r h
        simp only [plugs] at h
        split at h
        · split at h
          · rename_i h2
            simp only [Option.some.injEq, Prod.mk.injEq] at h
            rw [← h.1]; simp [ih _ _ _ h2]
          · simp at h
        · simp at h
    exact this _ _ _ _ hp
  refine Ends.calls (R := Post E.ent w A μ (upd (fun _ => none) u) (encL E.rs r)) ok.hfn hb ?_ fun v w' ⟨A', μ', rv, r2, u', h1, h2, h3, h4, h5⟩ => ⟨v, A', μ', rv, r2, u', rfl, h1, h2, h3, h4, h5⟩
  refine FF_sound ok k _ _ r hr w A μ (fun i => i < E.ent.objs.length) _ ⟨fun t v ht => ?_, by rw [get_none]; exact W, ?_, rfl⟩ (fun id hid => hid) (fun i hi => hi) (by rw [get_none]; exact EvF.refl)
  · refine assoc_zip (f := fun t => Act.eval ⟨us.toArray ++ Array.replicate (fn.ntmps - us.toArray.size) undef, []⟩ (.tmp t)) ?_ ht
    have : (List.range vs.length).map (fun t => Act.eval ⟨us.toArray ++ Array.replicate (fn.ntmps - us.toArray.size) undef, []⟩ (.tmp t)) = us := by
      refine List.ext_getElem? fun i => ?_
      rw [List.getElem?_map]
      by_cases hi : i < vs.length
      · have hi' : i < us.length := by omega
        simp [Act.eval, hi, hi', Array.getElem?_append_left]
      · rw [List.getElem?_eq_none (by simp; omega), List.getElem?_eq_none (by omega)]; rfl
    rw [this]; exact hus
  · rw [← ok.nt]
    have := ok.nt
    simp; omega

def FnOK (P : Program) (ent : Ent) (ts rs : List Ty) (g : PD ts → Option (PD rs)) : Prop :=
  hasBody P ent.f = true ∧ entTy ent rs = true ∧ ts.all noPair = true ∧ ∀ a r, g a = some r → Good P ent (encL ts a) (encL rs r)

theorem FF_succ (k : Nat) (todo : List Item) (st : St) : FF E (k + 1) todo st = run E (fun t s => FF E k t s) 4000 true todo st := rfl

theorem hasBody_of {f : Nat} (hf : P.funcs[f]? = some fn) (h : (!(fn.name == "runtime.NumGoroutine") && fn.body.isSome) = true) : hasBody P f = true := by
  simp only [hasBody, hf]; exact h

theorem cuts_of {m : Nat} {cs : List Cut} (h : (cs.all fun c => Nat.ble m c.objs.length) = true) : ∀ c ∈ cs, m ≤ c.objs.length := fun c hc =>
  Nat.le_of_ble_eq_true (List.all_eq_true.1 h c hc)

/-- a table of functions that do what is said -/
inductive Tab (P : Program) {ρ : Type} : List Ent → List (Nat × (List V → (List V → Option ρ) → Option ρ)) → Prop
  | nil : Tab P [] []
  | cons {ent ts rs g es l} (h : FnOK P ent ts rs g) (hn : (es.all fun e => !Nat.beq e.e ent.e) = true) (t : Tab P es l) : Tab P (ent :: es) ((ent.e, mkF ts rs g) :: l)

theorem Tab.assoc {ρ : Type} {es : List Ent} {l : List (Nat × (List V → (List V → Option ρ) → Option ρ))} (t : Tab P es l) : ∀ {e : Nat} {G : List V → (List V → Option ρ) → Option ρ}, Ab.assoc e l = some G →
    ∃ ent ts rs g, ent ∈ es ∧ ent.e = e ∧ FnOK P ent ts rs g ∧ G = mkF ts rs g ∧ ∀ ent' ∈ es, ent'.e = e → ent' = ent := by
  induction t with
  | nil => intro e G h; simp [Ab.assoc] at h
  | @cons ent ts rs g es l h hn t ih =>
    intro e G ha
    simp only [Ab.assoc] at ha
    cases hb : Nat.beq ent.e e with
    | true =>
      have he := Nat.eq_of_beq_eq_true hb
      rw [hb, cond_true] at ha
      obtain rfl := Option.some.inj ha
      refine ⟨ent, ts, rs, g, by simp, he, h, rfl, fun ent' hm he' => ?_⟩
      rcases List.mem_cons.1 hm with q | q
      · exact q
      · have := List.all_eq_true.1 hn ent' q
        rw [he', ← he] at this; simp at this
    | false =>
      rw [hb, cond_false] at ha
      obtain ⟨ent1, ts1, rs1, g1, q1, q2, q3, q4, q5⟩ := ih ha
      refine ⟨ent1, ts1, rs1, g1, List.mem_cons_of_mem _ q1, q2, q3, q4, fun ent' hm he' => ?_⟩
      rcases List.mem_cons.1 hm with q | q
      · subst q; rw [he'] at hb; simp at hb
      · exact q5 ent' q he'

theorem Tab.ok {ρ : Type} {es : List Ent} {l : List (Nat × (List V → (List V → Option ρ) → Option ρ))} (t : Tab P es l) : (ctOf l).ok (TOk P es) := by
  intro e xs K r hr
  simp only [ctOf] at hr
  cases ha : Ab.assoc e l with
  | none => simp [ha] at hr
  | some G =>
    rw [ha, Option.getD_some] at hr
    obtain ⟨ent, ts, rs, g, q1, q2, ⟨f1, f2, f3, f4⟩, rfl, q5⟩ := t.assoc ha
    simp only [mkF] at hr
    split at hr
    · rename_i a hdec
      cases hg : g a with
      | none => simp [hg] at hr
      | some r0 =>
        rw [hg, Option.bind_some] at hr
        refine ⟨encL rs r0, fun hv ent' hm he' => ?_, hr⟩
        obtain rfl := q5 ent' hm he'
        rw [decL_inv hv f3 hdec]
        have hnp : rs.all noPair = true := by simp only [entTy, Bool.and_eq_true] at f2; exact f2.1.1
        exact ⟨f1, ⟨rs, f2, TyV_encL rs r0 hnp⟩, f4 a r0 hg⟩
    · simp at hr

end
end Ab
namespace Ab
open Go
section
variable {P : Program}

/-- a law over bytes -/
theorem law_sound {f e : Nat} {g : List Int → Option Bool} (h : FnOK P ⟨f, [.h (.list (.int .u8))], [], .h .bool, [], e⟩ [.list (.int .u8)] [.bool] g) {W : World} {a : Option Addr} {len cap : Nat} {zs : List Int}
    (hr : (a = none ∧ len = 0 ∧ cap = 0 ∧ zs = []) ∨ ∃ x, a = some x ∧ len ≤ cap ∧ cap ≤ maxLen ∧ zs.length = cap ∧ (∀ i, i < zs.length → W.cell? (x.add i) = some (.int .u8 (zs.getD i 0))) ∧ ∀ n ∈ zs, (Lit.int .u8 n).wf = true)
    (hg : g (zs.take len) = some true) :
    Calls P f #[.slice a len cap] W fun e W' => e = .returned (.bool true) ∧ Go.RowKit.Below W.heap.size W W' := by
  have hgood := h.2.2.2 (zs.take len) true hg
  have him : ∀ i, W.cell? ⟨i, 0, none⟩ = W.cell? ⟨i, 0, none⟩ := fun _ => rfl
  let A : Am := fun b o => ∃ v, W.cell? ⟨b, o, none⟩ = some v
  have hrt : RT W A (.list (.int .u8)) (zs.take len) [.slice a len cap] := by
    rcases hr with ⟨rfl, rfl, rfl, rfl⟩ | ⟨x, rfl, h1, _, h2, h3, _⟩
    · exact ⟨none, 0, 0, rfl, rfl, Nat.le_refl _, fun i hi => by simp at hi⟩
    · refine ⟨some x, len, cap, rfl, ?_, h1, fun i hi => ?_⟩
      · show len = (zs.take len).length
        rw [List.length_take]; omega
      · have hi' : i < (zs.take len).length := hi
        rw [List.length_take] at hi'
        have hz := h3 i (by omega)
        have hspot : x.spot = none := by
          have h0 := h3 0 (by omega)
          simp only [World.cell?, Addr.add, if_true] at h0
          split at h0
          · split at h0
            · simp at h0
            · rename_i hs; simpa using hs
          · simp at h0
        obtain ⟨b, o, sp⟩ := x
        simp only at hspot
        subst hspot
        rw [Addr.add_lit] at hz
        refine ⟨b, o, [.int .u8 (zs.getD i 0)], rfl, rfl, fun k hk => ?_, ?_⟩
        · have : k = 0 := by simpa using hk
          subst this
          simp only [Ty.sz, Nat.mul_one, Nat.add_zero, List.getElem_cons_zero]
          exact ⟨hz, _, hz⟩
        · simp only [RT]
          have : gd (.int .u8) (zs.take len) i = zs.getD i 0 := by
            show (zs.take len).getD i 0 = zs.getD i 0
            simp only [List.getD, List.getElem?_take_of_lt (show i < len by omega)]
          rw [this]
  have hcall := hgood W A (fun _ => none) [.slice a len cap] [.v (.list (.int .u8)) (zs.take len)] [] [] rfl rfl (.cons (.v hrt) .nil)
    ⟨fun id o ho => by simp [upd, assoc] at ho, fun _ _ => rfl, fun id o L ho => by simp [upd, assoc] at ho, fun id id' o o' L L' ho => by simp [upd, assoc] at ho, fun b ⟨id, o, L, ho, _⟩ => by simp [upd, assoc] at ho,
      fun id o L b off ho => by simp [upd, assoc] at ho, fun b off ha => ha⟩
  refine hcall.mono ?_
  rintro e w' ⟨v', A', μ', rv, r2, u', rfl, h1, h2, h3, h4, h5⟩
  simp only [encL, cellsOf, plug, Option.some.injEq, Prod.mk.injEq] at h1
  obtain ⟨rfl, rfl⟩ := h1
  refine ⟨by rw [rv_bool h3], h5.st.1, h5.st.2.1, h5.st.2.2, h5.sz, fun k hk => h5.same k hk fun ⟨id, o, L, ho, _⟩ => by simp [upd, assoc] at ho⟩
end
end Ab
