/- Proved: what each function that the law reaches computes (second part), for every argument at which the plain function answers. -/
import Derived.Test.YtobfbgmglopdhaaGreatA3
import Derived.Test.YtobfbgmglopdhaaGreatProg
import Derived.Test.YtobfbgmglopdhaaGreatG1
set_option linter.unusedVariables false
set_option linter.unusedSimpArgs false
set_option maxRecDepth 1000000
set_option maxHeartbeats 2000000
set_option linter.unusedVariables false
namespace Go.Proofs.YtobfbgmglopdhaaGreat
open Go Ab
noncomputable section
def slices_ContainsFunc_at_Problem_isChances_1.B (k : Nat) (a0 : List (List Int)) (a1 : List Int) (a2 : List (List Int)) (a3 : List (List Int)) (a4 : List (List Int)) : Option (Bool) :=
  (slices_IndexFunc_at_Problem_isChances_1.f k a0 a1 a2 a3 a4).bind fun t1 => some (decide ((0 : Int) ≤ t1))
def slices_ContainsFunc_at_Problem_isChances_1.f (k : Nat) (a0 : List (List Int)) (a1 : List Int) (a2 : List (List Int)) (a3 : List (List Int)) (a4 : List (List Int)) : Option (Bool) := slices_ContainsFunc_at_Problem_isChances_1.B k a0 a1 a2 a3 a4
def slices_ContainsFunc_at_Problem_isChances_1.ent : Ent := ⟨59, [.h (.list (.list (.int .i64))), .fn 65 [] [.rp [.h (.list (.int .i64)), .h (.list (.list (.int .i64)))], .rp [.h (.list (.list (.int .i64))), .h (.list (.list (.int .i64)))]]], [], .h (.bool), [], 45⟩
abbrev slices_ContainsFunc_at_Problem_isChances_1.ts : List Ty := [.list (.list (.int .i64)), .list (.int .i64), .list (.list (.int .i64)), .list (.list (.int .i64)), .list (.list (.int .i64))]
abbrev slices_ContainsFunc_at_Problem_isChances_1.rs : List Ty := [.bool]
noncomputable def slices_ContainsFunc_at_Problem_isChances_1.E (k : Nat) : Env :=
  ⟨tab, 9, slices_ContainsFunc_at_Problem_isChances_1.ent, slices_ContainsFunc_at_Problem_isChances_1.rs, [slices_IndexFunc_at_Problem_isChances_1.ent], ctOf [(44, mkF slices_IndexFunc_at_Problem_isChances_1.ts slices_IndexFunc_at_Problem_isChances_1.rs fun a => slices_IndexFunc_at_Problem_isChances_1.f k a.1 a.2.1 a.2.2.1 a.2.2.2.1 a.2.2.2.2)], [], [.tmp 4]⟩
theorem slices_ContainsFunc_at_Problem_isChances_1.h (k : Nat) (R : List Item → St → Option (PD slices_ContainsFunc_at_Problem_isChances_1.rs)) (a0 : List (List Int)) (a1 : List Int) (a2 : List (List Int)) (a3 : List (List Int)) (a4 : List (List Int)) : run (slices_ContainsFunc_at_Problem_isChances_1.E k) R 4000 true [.code (bodyOf Tryz.f59)] (stA (slices_ContainsFunc_at_Problem_isChances_1.E k) [.v (.list (.list (.int .i64))) a0, .v (.list (.int .i64)) a1, .v (.list (.list (.int .i64))) a2, .v (.list (.list (.int .i64))) a3, .v (.list (.list (.int .i64))) a4]) = slices_ContainsFunc_at_Problem_isChances_1.B k a0 a1 a2 a3 a4 := by kernel_rfl
theorem slices_ContainsFunc_at_Problem_isChances_1.eok (k : Nat) : EOk Tryz.prog (slices_ContainsFunc_at_Problem_isChances_1.E k) Tryz.f59 :=
  ⟨Tryz.func59, Tryz.ntmps59, by kernel_rfl, tab_ok, mixed, cuts_of (by kernel_rfl), Tab.ok (.cons (slices_IndexFunc_at_Problem_isChances_1.ok k) (by kernel_rfl) .nil), by kernel_rfl⟩
theorem slices_ContainsFunc_at_Problem_isChances_1.run (k : Nat) (a0 : List (List Int)) (a1 : List Int) (a2 : List (List Int)) (a3 : List (List Int)) (a4 : List (List Int)): FF (slices_ContainsFunc_at_Problem_isChances_1.E k) 1 [.code (bodyOf Tryz.f59)] (stA (slices_ContainsFunc_at_Problem_isChances_1.E k) [.v (.list (.list (.int .i64))) a0, .v (.list (.int .i64)) a1, .v (.list (.list (.int .i64))) a2, .v (.list (.list (.int .i64))) a3, .v (.list (.list (.int .i64))) a4]) = slices_ContainsFunc_at_Problem_isChances_1.f k a0 a1 a2 a3 a4 :=
  (FF_succ ..).trans (slices_ContainsFunc_at_Problem_isChances_1.h k (fun t s => FF (slices_ContainsFunc_at_Problem_isChances_1.E k) 0 t s) a0 a1 a2 a3 a4)
theorem slices_ContainsFunc_at_Problem_isChances_1.ok (k : Nat) : FnOK Tryz.prog slices_ContainsFunc_at_Problem_isChances_1.ent slices_ContainsFunc_at_Problem_isChances_1.ts slices_ContainsFunc_at_Problem_isChances_1.rs fun a => slices_ContainsFunc_at_Problem_isChances_1.f k a.1 a.2.1 a.2.2.1 a.2.2.2.1 a.2.2.2.2 :=
  ⟨hasBody_of Tryz.func59 (by kernel_rfl), by kernel_rfl, by kernel_rfl, fun a r hr => good_of (E := (slices_ContainsFunc_at_Problem_isChances_1.E k)) (k := 1) (xs := encL slices_ContainsFunc_at_Problem_isChances_1.ts a) (slices_ContainsFunc_at_Problem_isChances_1.eok k) (body := (bodyOf Tryz.f59)) (by kernel_rfl) (by kernel_rfl) ((slices_ContainsFunc_at_Problem_isChances_1.run k a.1 a.2.1 a.2.2.1 a.2.2.2.1 a.2.2.2.2).trans hr)⟩

def impl_Problem_isChances.B (k : Nat) (a0 : List (List Int)) (a1 : List (List Int)) (a2 : List Int) (a3 : List (List Int)) : Option (Bool) :=
  (impl_within.f (a3.length : Int) 1 12).bind fun t1 => (bif !t1 then some false else (bif !decide ((a2.length : Int) = (a3.length : Int)) then some false else ((impl_areWeights.f k a2 1).bind fun t2 => (bif !t2 then some false else ((slices_ContainsFunc_at_Problem_isChances_1.f k a3 a2 a3 a0 a1).bind fun t3 => some (!t3))))))
def impl_Problem_isChances.f (k : Nat) (a0 : List (List Int)) (a1 : List (List Int)) (a2 : List Int) (a3 : List (List Int)) : Option (Bool) := impl_Problem_isChances.B k a0 a1 a2 a3
def impl_Problem_isChances.ent : Ent := ⟨21, [.agg [.h (.list (.list (.int .i64))), .h (.list (.list (.int .i64)))], .agg [.h (.list (.int .i64)), .h (.list (.list (.int .i64)))]], [], .h (.bool), [], 46⟩
abbrev impl_Problem_isChances.ts : List Ty := [.list (.list (.int .i64)), .list (.list (.int .i64)), .list (.int .i64), .list (.list (.int .i64))]
abbrev impl_Problem_isChances.rs : List Ty := [.bool]
noncomputable def impl_Problem_isChances.E (k : Nat) : Env :=
  ⟨tab, 30, impl_Problem_isChances.ent, impl_Problem_isChances.rs, [impl_within.ent, impl_areWeights.ent, slices_ContainsFunc_at_Problem_isChances_1.ent], ctOf [(18, mkF impl_within.ts impl_within.rs fun a => impl_within.f a.1 a.2.1 a.2.2),
    (37, mkF impl_areWeights.ts impl_areWeights.rs fun a => impl_areWeights.f k a.1 a.2),
    (45, mkF slices_ContainsFunc_at_Problem_isChances_1.ts slices_ContainsFunc_at_Problem_isChances_1.rs fun a => slices_ContainsFunc_at_Problem_isChances_1.f k a.1 a.2.1 a.2.2.1 a.2.2.2.1 a.2.2.2.2)], [], [.tmp 4]⟩
theorem impl_Problem_isChances.h (k : Nat) (R : List Item → St → Option (PD impl_Problem_isChances.rs)) (a0 : List (List Int)) (a1 : List (List Int)) (a2 : List Int) (a3 : List (List Int)) : run (impl_Problem_isChances.E k) R 4000 true [.code (bodyOf Tryz.f21)] (stA (impl_Problem_isChances.E k) [.v (.list (.list (.int .i64))) a0, .v (.list (.list (.int .i64))) a1, .v (.list (.int .i64)) a2, .v (.list (.list (.int .i64))) a3]) = impl_Problem_isChances.B k a0 a1 a2 a3 := by kernel_rfl
theorem impl_Problem_isChances.eok (k : Nat) : EOk Tryz.prog (impl_Problem_isChances.E k) Tryz.f21 :=
  ⟨Tryz.func21, Tryz.ntmps21, by kernel_rfl, tab_ok, mixed, cuts_of (by kernel_rfl), Tab.ok (.cons (impl_within.ok) (by kernel_rfl) (.cons (impl_areWeights.ok k) (by kernel_rfl) (.cons (slices_ContainsFunc_at_Problem_isChances_1.ok k) (by kernel_rfl) .nil))), by kernel_rfl⟩
theorem impl_Problem_isChances.run (k : Nat) (a0 : List (List Int)) (a1 : List (List Int)) (a2 : List Int) (a3 : List (List Int)): FF (impl_Problem_isChances.E k) 1 [.code (bodyOf Tryz.f21)] (stA (impl_Problem_isChances.E k) [.v (.list (.list (.int .i64))) a0, .v (.list (.list (.int .i64))) a1, .v (.list (.int .i64)) a2, .v (.list (.list (.int .i64))) a3]) = impl_Problem_isChances.f k a0 a1 a2 a3 :=
  (FF_succ ..).trans (impl_Problem_isChances.h k (fun t s => FF (impl_Problem_isChances.E k) 0 t s) a0 a1 a2 a3)
theorem impl_Problem_isChances.ok (k : Nat) : FnOK Tryz.prog impl_Problem_isChances.ent impl_Problem_isChances.ts impl_Problem_isChances.rs fun a => impl_Problem_isChances.f k a.1 a.2.1 a.2.2.1 a.2.2.2 :=
  ⟨hasBody_of Tryz.func21 (by kernel_rfl), by kernel_rfl, by kernel_rfl, fun a r hr => good_of (E := (impl_Problem_isChances.E k)) (k := 1) (xs := encL impl_Problem_isChances.ts a) (impl_Problem_isChances.eok k) (body := (bodyOf Tryz.f21)) (by kernel_rfl) (by kernel_rfl) ((impl_Problem_isChances.run k a.1 a.2.1 a.2.2.1 a.2.2.2).trans hr)⟩

def impl_IsChances.B (k : Nat) (a0 : List (List Int)) (a1 : List (List Int)) (a2 : List Int) (a3 : List (List Int)) : Option (Bool × Bool) :=
  (impl_IsProblem.f k a0 a1).bind fun t1 => (bif !t1 then some (false, false) else ((impl_Problem_isChances.f k a0 a1 a2 a3).bind fun t2 => some (t2, true)))
def impl_IsChances.f (k : Nat) (a0 : List (List Int)) (a1 : List (List Int)) (a2 : List Int) (a3 : List (List Int)) : Option (Bool × Bool) := impl_IsChances.B k a0 a1 a2 a3
def impl_IsChances.ent : Ent := ⟨6, [.agg [.h (.list (.list (.int .i64))), .h (.list (.list (.int .i64)))], .agg [.h (.list (.int .i64)), .h (.list (.list (.int .i64)))]], [], .tup [.h (.bool), .h (.bool)], [], 47⟩
abbrev impl_IsChances.ts : List Ty := [.list (.list (.int .i64)), .list (.list (.int .i64)), .list (.int .i64), .list (.list (.int .i64))]
abbrev impl_IsChances.rs : List Ty := [.bool, .bool]
noncomputable def impl_IsChances.E (k : Nat) : Env :=
  ⟨tab, 12, impl_IsChances.ent, impl_IsChances.rs, [impl_IsProblem.ent, impl_Problem_isChances.ent], ctOf [(33, mkF impl_IsProblem.ts impl_IsProblem.rs fun a => impl_IsProblem.f k a.1 a.2),
    (46, mkF impl_Problem_isChances.ts impl_Problem_isChances.rs fun a => impl_Problem_isChances.f k a.1 a.2.1 a.2.2.1 a.2.2.2)], [], [.tmp 4, .tmp 5]⟩
theorem impl_IsChances.h (k : Nat) (R : List Item → St → Option (PD impl_IsChances.rs)) (a0 : List (List Int)) (a1 : List (List Int)) (a2 : List Int) (a3 : List (List Int)) : run (impl_IsChances.E k) R 4000 true [.code (bodyOf Tryz.f6)] (stA (impl_IsChances.E k) [.v (.list (.list (.int .i64))) a0, .v (.list (.list (.int .i64))) a1, .v (.list (.int .i64)) a2, .v (.list (.list (.int .i64))) a3]) = impl_IsChances.B k a0 a1 a2 a3 := by kernel_rfl
theorem impl_IsChances.eok (k : Nat) : EOk Tryz.prog (impl_IsChances.E k) Tryz.f6 :=
  ⟨Tryz.func6, Tryz.ntmps6, by kernel_rfl, tab_ok, mixed, cuts_of (by kernel_rfl), Tab.ok (.cons (impl_IsProblem.ok k) (by kernel_rfl) (.cons (impl_Problem_isChances.ok k) (by kernel_rfl) .nil)), by kernel_rfl⟩
theorem impl_IsChances.run (k : Nat) (a0 : List (List Int)) (a1 : List (List Int)) (a2 : List Int) (a3 : List (List Int)): FF (impl_IsChances.E k) 1 [.code (bodyOf Tryz.f6)] (stA (impl_IsChances.E k) [.v (.list (.list (.int .i64))) a0, .v (.list (.list (.int .i64))) a1, .v (.list (.int .i64)) a2, .v (.list (.list (.int .i64))) a3]) = impl_IsChances.f k a0 a1 a2 a3 :=
  (FF_succ ..).trans (impl_IsChances.h k (fun t s => FF (impl_IsChances.E k) 0 t s) a0 a1 a2 a3)
theorem impl_IsChances.ok (k : Nat) : FnOK Tryz.prog impl_IsChances.ent impl_IsChances.ts impl_IsChances.rs fun a => impl_IsChances.f k a.1 a.2.1 a.2.2.1 a.2.2.2 :=
  ⟨hasBody_of Tryz.func6 (by kernel_rfl), by kernel_rfl, by kernel_rfl, fun a r hr => good_of (E := (impl_IsChances.E k)) (k := 1) (xs := encL impl_IsChances.ts a) (impl_IsChances.eok k) (body := (bodyOf Tryz.f6)) (by kernel_rfl) (by kernel_rfl) ((impl_IsChances.run k a.1 a.2.1 a.2.2.1 a.2.2.2).trans hr)⟩

def spec_l6Table.B5 (k : Nat) (r5 : Bool → Int → Int → List (List Int) → Option (Bool)) (r10 : Bool → Int → Int → List (List Int) → Option (Bool)) (r13 : Bool → Int → Int → Int → List (List Int) → Option (Bool)) (x1 : Bool) (x5 : Int) (x6 : Int) (x2_0 : List (List Int)) : Option (Bool) :=
  bif decide (x6 < x5) then (if (0 : Int) ≤ x6 ∧ x6 < (x2_0.length : Int) then (bif !decide (((x2_0.getD x6.toNat []).length : Int) = x5) then some false else (r5 x1 x5 (w64 (x6 + 1)) x2_0)) else none) else (r10 x1 x5 0 x2_0)
def spec_l6Table.B10 (k : Nat) (r5 : Bool → Int → Int → List (List Int) → Option (Bool)) (r10 : Bool → Int → Int → List (List Int) → Option (Bool)) (r13 : Bool → Int → Int → Int → List (List Int) → Option (Bool)) (x1 : Bool) (x5 : Int) (x7 : Int) (x2_0 : List (List Int)) : Option (Bool) :=
  bif decide (x7 < x5) then (r13 x1 x5 x7 0 x2_0) else some true
def spec_l6Table.B13 (k : Nat) (r5 : Bool → Int → Int → List (List Int) → Option (Bool)) (r10 : Bool → Int → Int → List (List Int) → Option (Bool)) (r13 : Bool → Int → Int → Int → List (List Int) → Option (Bool)) (x1 : Bool) (x5 : Int) (x7 : Int) (x8 : Int) (x2_0 : List (List Int)) : Option (Bool) :=
  bif decide (x8 < x5) then (if (0 : Int) ≤ x7 ∧ x7 < (x2_0.length : Int) then (if (0 : Int) ≤ x8 ∧ x8 < ((x2_0.getD x7.toNat []).length : Int) then (if (0 : Int) ≤ x8 ∧ x8 < (x2_0.length : Int) then (if (0 : Int) ≤ x7 ∧ x7 < ((x2_0.getD x8.toNat []).length : Int) then (bif !decide ((x2_0.getD x7.toNat []).getD x8.toNat 0 = (x2_0.getD x8.toNat []).getD x7.toNat 0) then some false else (bif decide (x7 = x8) then (bif !decide ((x2_0.getD x7.toNat []).getD x8.toNat 0 = (0 : Int)) then some false else (bif !decide (x7 = x8) then ((spec_l1In.f ((x2_0.getD x7.toNat []).getD x8.toNat 0) 1 99).bind fun t2 => (bif !t2 then (bif x1 then (bif !(decide ((x2_0.getD x7.toNat []).getD x8.toNat 0 = ((-1) : Int))) then some false else (r13 x1 x5 x7 (w64 (x8 + 1)) x2_0)) else some false) else (r13 x1 x5 x7 (w64 (x8 + 1)) x2_0))) else (r13 x1 x5 x7 (w64 (x8 + 1)) x2_0))) else (bif !decide (x7 = x8) then ((spec_l1In.f ((x2_0.getD x7.toNat []).getD x8.toNat 0) 1 99).bind fun t3 => (bif !t3 then (bif x1 then (bif !(decide ((x2_0.getD x7.toNat []).getD x8.toNat 0 = ((-1) : Int))) then some false else (r13 x1 x5 x7 (w64 (x8 + 1)) x2_0)) else some false) else (r13 x1 x5 x7 (w64 (x8 + 1)) x2_0))) else (r13 x1 x5 x7 (w64 (x8 + 1)) x2_0)))) else none) else none) else none) else none) else (r10 x1 x5 (w64 (x7 + 1)) x2_0)
def spec_l6Table.B (k : Nat) (r5 : Bool → Int → Int → List (List Int) → Option (Bool)) (r10 : Bool → Int → Int → List (List Int) → Option (Bool)) (r13 : Bool → Int → Int → Int → List (List Int) → Option (Bool)) (a0 : List (List Int)) (a1 : Bool) : Option (Bool) :=
  (spec_l1In.f (a0.length : Int) 1 6).bind fun t1 => (bif !t1 then some false else (r5 a1 (a0.length : Int) 0 a0))
def spec_l6Table.bs (k : Nat) : Nat → (Bool → Int → Int → List (List Int) → Option (Bool)) × (Bool → Int → Int → List (List Int) → Option (Bool)) × (Bool → Int → Int → Int → List (List Int) → Option (Bool))
  | 0 => (fun _ _ _ _ => none, fun _ _ _ _ => none, fun _ _ _ _ _ => none)
  | n + 1 => (spec_l6Table.B5 k ((spec_l6Table.bs k n).1) ((spec_l6Table.bs k n).2.1) ((spec_l6Table.bs k n).2.2), spec_l6Table.B10 k ((spec_l6Table.bs k n).1) ((spec_l6Table.bs k n).2.1) ((spec_l6Table.bs k n).2.2), spec_l6Table.B13 k ((spec_l6Table.bs k n).1) ((spec_l6Table.bs k n).2.1) ((spec_l6Table.bs k n).2.2))
def spec_l6Table.f (k : Nat) (a0 : List (List Int)) (a1 : Bool) : Option (Bool) := spec_l6Table.B k ((spec_l6Table.bs k k).1) ((spec_l6Table.bs k k).2.1) ((spec_l6Table.bs k k).2.2) a0 a1
def spec_l6Table.ent : Ent := ⟨100, [.agg [.h (.list (.list (.int .i64)))], .h (.bool)], [], .h (.bool), [], 48⟩
abbrev spec_l6Table.ts : List Ty := [.list (.list (.int .i64)), .bool]
abbrev spec_l6Table.rs : List Ty := [.bool]
def spec_l6Table.c5 : Cut := ⟨5, [(1, .h (.bool)), (2, .p 0), (5, .h (.int .i64)), (6, .h (.int .i64))], [.box [.h (.list (.list (.int .i64)))]]⟩
def spec_l6Table.c10 : Cut := ⟨10, [(1, .h (.bool)), (2, .p 0), (5, .h (.int .i64)), (7, .h (.int .i64))], [.box [.h (.list (.list (.int .i64)))]]⟩
def spec_l6Table.c13 : Cut := ⟨13, [(1, .h (.bool)), (2, .p 0), (5, .h (.int .i64)), (7, .h (.int .i64)), (8, .h (.int .i64))], [.box [.h (.list (.list (.int .i64)))]]⟩
noncomputable def spec_l6Table.E (k : Nat) : Env :=
  ⟨tab, 84, spec_l6Table.ent, spec_l6Table.rs, [spec_l1In.ent], ctOf [(10, mkF spec_l1In.ts spec_l1In.rs fun a => spec_l1In.f a.1 a.2.1 a.2.2)], [spec_l6Table.c5, spec_l6Table.c10, spec_l6Table.c13], [.tmp 4]⟩
noncomputable def spec_l6Table.S5 : List Item := stk (bodyOf Tryz.f100) 5
noncomputable def spec_l6Table.m5 (x1 : Bool) (x5 : Int) (x6 : Int) (x2_0 : List (List Int)) : St := mkS spec_l6Table.c5 [.v (.bool) x1, .v (.int .i64) x5, .v (.int .i64) x6, .v (.list (.list (.int .i64))) x2_0]
noncomputable def spec_l6Table.S10 : List Item := stk (bodyOf Tryz.f100) 10
noncomputable def spec_l6Table.m10 (x1 : Bool) (x5 : Int) (x7 : Int) (x2_0 : List (List Int)) : St := mkS spec_l6Table.c10 [.v (.bool) x1, .v (.int .i64) x5, .v (.int .i64) x7, .v (.list (.list (.int .i64))) x2_0]
noncomputable def spec_l6Table.S13 : List Item := stk (bodyOf Tryz.f100) 13
noncomputable def spec_l6Table.m13 (x1 : Bool) (x5 : Int) (x7 : Int) (x8 : Int) (x2_0 : List (List Int)) : St := mkS spec_l6Table.c13 [.v (.bool) x1, .v (.int .i64) x5, .v (.int .i64) x7, .v (.int .i64) x8, .v (.list (.list (.int .i64))) x2_0]
theorem spec_l6Table.h5 (k : Nat) (R : List Item → St → Option (PD spec_l6Table.rs)) (x1 : Bool) (x5 : Int) (x6 : Int) (x2_0 : List (List Int)) : run (spec_l6Table.E k) R 4000 true spec_l6Table.S5 (spec_l6Table.m5 x1 x5 x6 x2_0) = spec_l6Table.B5 k (fun x1 x5 x6 x2_0 => R spec_l6Table.S5 (spec_l6Table.m5 x1 x5 x6 x2_0)) (fun x1 x5 x7 x2_0 => R spec_l6Table.S10 (spec_l6Table.m10 x1 x5 x7 x2_0)) (fun x1 x5 x7 x8 x2_0 => R spec_l6Table.S13 (spec_l6Table.m13 x1 x5 x7 x8 x2_0)) x1 x5 x6 x2_0 := by kernel_rfl
theorem spec_l6Table.h10 (k : Nat) (R : List Item → St → Option (PD spec_l6Table.rs)) (x1 : Bool) (x5 : Int) (x7 : Int) (x2_0 : List (List Int)) : run (spec_l6Table.E k) R 4000 true spec_l6Table.S10 (spec_l6Table.m10 x1 x5 x7 x2_0) = spec_l6Table.B10 k (fun x1 x5 x6 x2_0 => R spec_l6Table.S5 (spec_l6Table.m5 x1 x5 x6 x2_0)) (fun x1 x5 x7 x2_0 => R spec_l6Table.S10 (spec_l6Table.m10 x1 x5 x7 x2_0)) (fun x1 x5 x7 x8 x2_0 => R spec_l6Table.S13 (spec_l6Table.m13 x1 x5 x7 x8 x2_0)) x1 x5 x7 x2_0 := by kernel_rfl
theorem spec_l6Table.h13 (k : Nat) (R : List Item → St → Option (PD spec_l6Table.rs)) (x1 : Bool) (x5 : Int) (x7 : Int) (x8 : Int) (x2_0 : List (List Int)) : run (spec_l6Table.E k) R 4000 true spec_l6Table.S13 (spec_l6Table.m13 x1 x5 x7 x8 x2_0) = spec_l6Table.B13 k (fun x1 x5 x6 x2_0 => R spec_l6Table.S5 (spec_l6Table.m5 x1 x5 x6 x2_0)) (fun x1 x5 x7 x2_0 => R spec_l6Table.S10 (spec_l6Table.m10 x1 x5 x7 x2_0)) (fun x1 x5 x7 x8 x2_0 => R spec_l6Table.S13 (spec_l6Table.m13 x1 x5 x7 x8 x2_0)) x1 x5 x7 x8 x2_0 := by kernel_rfl
theorem spec_l6Table.h (k : Nat) (R : List Item → St → Option (PD spec_l6Table.rs)) (a0 : List (List Int)) (a1 : Bool) : run (spec_l6Table.E k) R 4000 true [.code (bodyOf Tryz.f100)] (stA (spec_l6Table.E k) [.v (.list (.list (.int .i64))) a0, .v (.bool) a1]) = spec_l6Table.B k (fun x1 x5 x6 x2_0 => R spec_l6Table.S5 (spec_l6Table.m5 x1 x5 x6 x2_0)) (fun x1 x5 x7 x2_0 => R spec_l6Table.S10 (spec_l6Table.m10 x1 x5 x7 x2_0)) (fun x1 x5 x7 x8 x2_0 => R spec_l6Table.S13 (spec_l6Table.m13 x1 x5 x7 x8 x2_0)) a0 a1 := by kernel_rfl
theorem spec_l6Table.eok (k : Nat) : EOk Tryz.prog (spec_l6Table.E k) Tryz.f100 :=
  ⟨Tryz.func100, Tryz.ntmps100, by kernel_rfl, tab_ok, mixed, cuts_of (by kernel_rfl), Tab.ok (.cons (spec_l1In.ok) (by kernel_rfl) .nil), by kernel_rfl⟩
theorem spec_l6Table.ff (k : Nat) : ∀ n : Nat, ((fun x1 x5 x6 x2_0 => FF (spec_l6Table.E k) n spec_l6Table.S5 (spec_l6Table.m5 x1 x5 x6 x2_0)), (fun x1 x5 x7 x2_0 => FF (spec_l6Table.E k) n spec_l6Table.S10 (spec_l6Table.m10 x1 x5 x7 x2_0)), (fun x1 x5 x7 x8 x2_0 => FF (spec_l6Table.E k) n spec_l6Table.S13 (spec_l6Table.m13 x1 x5 x7 x8 x2_0))) = spec_l6Table.bs k n
  | 0 => rfl
  | n + 1 => by
    show ((fun x1 x5 x6 x2_0 => FF (spec_l6Table.E k) (n + 1) spec_l6Table.S5 (spec_l6Table.m5 x1 x5 x6 x2_0)), (fun x1 x5 x7 x2_0 => FF (spec_l6Table.E k) (n + 1) spec_l6Table.S10 (spec_l6Table.m10 x1 x5 x7 x2_0)), (fun x1 x5 x7 x8 x2_0 => FF (spec_l6Table.E k) (n + 1) spec_l6Table.S13 (spec_l6Table.m13 x1 x5 x7 x8 x2_0))) = (spec_l6Table.B5 k ((spec_l6Table.bs k n).1) ((spec_l6Table.bs k n).2.1) ((spec_l6Table.bs k n).2.2), spec_l6Table.B10 k ((spec_l6Table.bs k n).1) ((spec_l6Table.bs k n).2.1) ((spec_l6Table.bs k n).2.2), spec_l6Table.B13 k ((spec_l6Table.bs k n).1) ((spec_l6Table.bs k n).2.1) ((spec_l6Table.bs k n).2.2))
    rw [← spec_l6Table.ff k n]
    exact (Prod.ext (funext fun x1 => funext fun x5 => funext fun x6 => funext fun x2_0 => by dsimp only; exact (FF_succ ..).trans (spec_l6Table.h5 k (fun t s => FF (spec_l6Table.E k) n t s) x1 x5 x6 x2_0)) (Prod.ext (funext fun x1 => funext fun x5 => funext fun x7 => funext fun x2_0 => by dsimp only; exact (FF_succ ..).trans (spec_l6Table.h10 k (fun t s => FF (spec_l6Table.E k) n t s) x1 x5 x7 x2_0)) (funext fun x1 => funext fun x5 => funext fun x7 => funext fun x8 => funext fun x2_0 => by dsimp only; exact (FF_succ ..).trans (spec_l6Table.h13 k (fun t s => FF (spec_l6Table.E k) n t s) x1 x5 x7 x8 x2_0))))
theorem spec_l6Table.run (k : Nat) (a0 : List (List Int)) (a1 : Bool): FF (spec_l6Table.E k) (k + 1) [.code (bodyOf Tryz.f100)] (stA (spec_l6Table.E k) [.v (.list (.list (.int .i64))) a0, .v (.bool) a1]) = spec_l6Table.f k a0 a1 :=
  (FF_succ ..).trans ((spec_l6Table.h k (fun t s => FF (spec_l6Table.E k) k t s) a0 a1).trans (by
    show _ = spec_l6Table.B k ((spec_l6Table.bs k k).1) ((spec_l6Table.bs k k).2.1) ((spec_l6Table.bs k k).2.2) a0 a1
    rw [← spec_l6Table.ff k k]))
theorem spec_l6Table.ok (k : Nat) : FnOK Tryz.prog spec_l6Table.ent spec_l6Table.ts spec_l6Table.rs fun a => spec_l6Table.f k a.1 a.2 :=
  ⟨hasBody_of Tryz.func100 (by kernel_rfl), by kernel_rfl, by kernel_rfl, fun a r hr => good_of (E := (spec_l6Table.E k)) (k := (k + 1)) (xs := encL spec_l6Table.ts a) (spec_l6Table.eok k) (body := (bodyOf Tryz.f100)) (by kernel_rfl) (by kernel_rfl) ((spec_l6Table.run k a.1 a.2).trans hr)⟩

def spec_l6Detour.B3 (k : Nat) (r3 : Int → Int → List (List Int) → Option (List Int)) (r6 : Int → Int → Int → List (List Int) → Option (List Int)) (r9 : Int → Int → Int → Int → List (List Int) → Option (List Int)) (x3 : Int) (x4 : Int) (x1_0 : List (List Int)) : Option (List Int) :=
  bif decide (x4 < x3) then (r6 x3 x4 0 x1_0) else some []
def spec_l6Detour.B6 (k : Nat) (r3 : Int → Int → List (List Int) → Option (List Int)) (r6 : Int → Int → Int → List (List Int) → Option (List Int)) (r9 : Int → Int → Int → Int → List (List Int) → Option (List Int)) (x3 : Int) (x4 : Int) (x5 : Int) (x1_0 : List (List Int)) : Option (List Int) :=
  bif decide (x5 < x3) then (r9 x3 x4 x5 0 x1_0) else (r3 x3 (w64 (x4 + 1)) x1_0)
def spec_l6Detour.B9 (k : Nat) (r3 : Int → Int → List (List Int) → Option (List Int)) (r6 : Int → Int → Int → List (List Int) → Option (List Int)) (r9 : Int → Int → Int → Int → List (List Int) → Option (List Int)) (x3 : Int) (x4 : Int) (x5 : Int) (x6 : Int) (x1_0 : List (List Int)) : Option (List Int) :=
  bif decide (x6 < x3) then (if (0 : Int) ≤ x4 ∧ x4 < (x1_0.length : Int) then (if (0 : Int) ≤ x6 ∧ x6 < ((x1_0.getD x4.toNat []).length : Int) then (if (0 : Int) ≤ x4 ∧ x4 < (x1_0.length : Int) then (if (0 : Int) ≤ x5 ∧ x5 < ((x1_0.getD x4.toNat []).length : Int) then (if (0 : Int) ≤ x5 ∧ x5 < (x1_0.length : Int) then (if (0 : Int) ≤ x6 ∧ x6 < ((x1_0.getD x5.toNat []).length : Int) then (bif decide (w64 (((x1_0.getD x4.toNat []).getD x5.toNat 0) + ((x1_0.getD x5.toNat []).getD x6.toNat 0)) < (x1_0.getD x4.toNat []).getD x6.toNat 0) then some [x4, x5, x6] else (r9 x3 x4 x5 (w64 (x6 + 1)) x1_0)) else none) else none) else none) else none) else none) else none) else (r6 x3 x4 (w64 (x5 + 1)) x1_0)
def spec_l6Detour.B (k : Nat) (r3 : Int → Int → List (List Int) → Option (List Int)) (r6 : Int → Int → Int → List (List Int) → Option (List Int)) (r9 : Int → Int → Int → Int → List (List Int) → Option (List Int)) (a0 : List (List Int)) : Option (List Int) :=
  r3 (a0.length : Int) 0 a0
def spec_l6Detour.bs (k : Nat) : Nat → (Int → Int → List (List Int) → Option (List Int)) × (Int → Int → Int → List (List Int) → Option (List Int)) × (Int → Int → Int → Int → List (List Int) → Option (List Int))
  | 0 => (fun _ _ _ => none, fun _ _ _ _ => none, fun _ _ _ _ _ => none)
  | n + 1 => (spec_l6Detour.B3 k ((spec_l6Detour.bs k n).1) ((spec_l6Detour.bs k n).2.1) ((spec_l6Detour.bs k n).2.2), spec_l6Detour.B6 k ((spec_l6Detour.bs k n).1) ((spec_l6Detour.bs k n).2.1) ((spec_l6Detour.bs k n).2.2), spec_l6Detour.B9 k ((spec_l6Detour.bs k n).1) ((spec_l6Detour.bs k n).2.1) ((spec_l6Detour.bs k n).2.2))
def spec_l6Detour.f (k : Nat) (a0 : List (List Int)) : Option (List Int) := spec_l6Detour.B k ((spec_l6Detour.bs k k).1) ((spec_l6Detour.bs k k).2.1) ((spec_l6Detour.bs k k).2.2) a0
def spec_l6Detour.ent : Ent := ⟨101, [.agg [.h (.list (.list (.int .i64)))]], [], .own 0 (.int .i64), [.buf (.int .i64)], 49⟩
abbrev spec_l6Detour.ts : List Ty := [.list (.list (.int .i64))]
abbrev spec_l6Detour.rs : List Ty := [.list (.int .i64)]
def spec_l6Detour.c3 : Cut := ⟨3, [(1, .p 0), (3, .h (.int .i64)), (4, .h (.int .i64))], [.box [.h (.list (.list (.int .i64)))]]⟩
def spec_l6Detour.c6 : Cut := ⟨6, [(1, .p 0), (3, .h (.int .i64)), (4, .h (.int .i64)), (5, .h (.int .i64))], [.box [.h (.list (.list (.int .i64)))]]⟩
def spec_l6Detour.c9 : Cut := ⟨9, [(1, .p 0), (3, .h (.int .i64)), (4, .h (.int .i64)), (5, .h (.int .i64)), (6, .h (.int .i64))], [.box [.h (.list (.list (.int .i64)))]]⟩
noncomputable def spec_l6Detour.E (k : Nat) : Env :=
  ⟨tab, 56, spec_l6Detour.ent, spec_l6Detour.rs, [], ctOf [], [spec_l6Detour.c3, spec_l6Detour.c6, spec_l6Detour.c9], [.tmp 2]⟩
noncomputable def spec_l6Detour.S3 : List Item := stk (bodyOf Tryz.f101) 3
noncomputable def spec_l6Detour.m3 (x3 : Int) (x4 : Int) (x1_0 : List (List Int)) : St := mkS spec_l6Detour.c3 [.v (.int .i64) x3, .v (.int .i64) x4, .v (.list (.list (.int .i64))) x1_0]
noncomputable def spec_l6Detour.S6 : List Item := stk (bodyOf Tryz.f101) 6
noncomputable def spec_l6Detour.m6 (x3 : Int) (x4 : Int) (x5 : Int) (x1_0 : List (List Int)) : St := mkS spec_l6Detour.c6 [.v (.int .i64) x3, .v (.int .i64) x4, .v (.int .i64) x5, .v (.list (.list (.int .i64))) x1_0]
noncomputable def spec_l6Detour.S9 : List Item := stk (bodyOf Tryz.f101) 9
noncomputable def spec_l6Detour.m9 (x3 : Int) (x4 : Int) (x5 : Int) (x6 : Int) (x1_0 : List (List Int)) : St := mkS spec_l6Detour.c9 [.v (.int .i64) x3, .v (.int .i64) x4, .v (.int .i64) x5, .v (.int .i64) x6, .v (.list (.list (.int .i64))) x1_0]
theorem spec_l6Detour.h3 (k : Nat) (R : List Item → St → Option (PD spec_l6Detour.rs)) (x3 : Int) (x4 : Int) (x1_0 : List (List Int)) : run (spec_l6Detour.E k) R 4000 true spec_l6Detour.S3 (spec_l6Detour.m3 x3 x4 x1_0) = spec_l6Detour.B3 k (fun x3 x4 x1_0 => R spec_l6Detour.S3 (spec_l6Detour.m3 x3 x4 x1_0)) (fun x3 x4 x5 x1_0 => R spec_l6Detour.S6 (spec_l6Detour.m6 x3 x4 x5 x1_0)) (fun x3 x4 x5 x6 x1_0 => R spec_l6Detour.S9 (spec_l6Detour.m9 x3 x4 x5 x6 x1_0)) x3 x4 x1_0 := by kernel_rfl
theorem spec_l6Detour.h6 (k : Nat) (R : List Item → St → Option (PD spec_l6Detour.rs)) (x3 : Int) (x4 : Int) (x5 : Int) (x1_0 : List (List Int)) : run (spec_l6Detour.E k) R 4000 true spec_l6Detour.S6 (spec_l6Detour.m6 x3 x4 x5 x1_0) = spec_l6Detour.B6 k (fun x3 x4 x1_0 => R spec_l6Detour.S3 (spec_l6Detour.m3 x3 x4 x1_0)) (fun x3 x4 x5 x1_0 => R spec_l6Detour.S6 (spec_l6Detour.m6 x3 x4 x5 x1_0)) (fun x3 x4 x5 x6 x1_0 => R spec_l6Detour.S9 (spec_l6Detour.m9 x3 x4 x5 x6 x1_0)) x3 x4 x5 x1_0 := by kernel_rfl
theorem spec_l6Detour.h9 (k : Nat) (R : List Item → St → Option (PD spec_l6Detour.rs)) (x3 : Int) (x4 : Int) (x5 : Int) (x6 : Int) (x1_0 : List (List Int)) : run (spec_l6Detour.E k) R 4000 true spec_l6Detour.S9 (spec_l6Detour.m9 x3 x4 x5 x6 x1_0) = spec_l6Detour.B9 k (fun x3 x4 x1_0 => R spec_l6Detour.S3 (spec_l6Detour.m3 x3 x4 x1_0)) (fun x3 x4 x5 x1_0 => R spec_l6Detour.S6 (spec_l6Detour.m6 x3 x4 x5 x1_0)) (fun x3 x4 x5 x6 x1_0 => R spec_l6Detour.S9 (spec_l6Detour.m9 x3 x4 x5 x6 x1_0)) x3 x4 x5 x6 x1_0 := by kernel_rfl
theorem spec_l6Detour.h (k : Nat) (R : List Item → St → Option (PD spec_l6Detour.rs)) (a0 : List (List Int)) : run (spec_l6Detour.E k) R 4000 true [.code (bodyOf Tryz.f101)] (stA (spec_l6Detour.E k) [.v (.list (.list (.int .i64))) a0]) = spec_l6Detour.B k (fun x3 x4 x1_0 => R spec_l6Detour.S3 (spec_l6Detour.m3 x3 x4 x1_0)) (fun x3 x4 x5 x1_0 => R spec_l6Detour.S6 (spec_l6Detour.m6 x3 x4 x5 x1_0)) (fun x3 x4 x5 x6 x1_0 => R spec_l6Detour.S9 (spec_l6Detour.m9 x3 x4 x5 x6 x1_0)) a0 := by kernel_rfl
theorem spec_l6Detour.eok (k : Nat) : EOk Tryz.prog (spec_l6Detour.E k) Tryz.f101 :=
  ⟨Tryz.func101, Tryz.ntmps101, by kernel_rfl, tab_ok, mixed, cuts_of (by kernel_rfl), Tab.ok .nil, by kernel_rfl⟩
theorem spec_l6Detour.ff (k : Nat) : ∀ n : Nat, ((fun x3 x4 x1_0 => FF (spec_l6Detour.E k) n spec_l6Detour.S3 (spec_l6Detour.m3 x3 x4 x1_0)), (fun x3 x4 x5 x1_0 => FF (spec_l6Detour.E k) n spec_l6Detour.S6 (spec_l6Detour.m6 x3 x4 x5 x1_0)), (fun x3 x4 x5 x6 x1_0 => FF (spec_l6Detour.E k) n spec_l6Detour.S9 (spec_l6Detour.m9 x3 x4 x5 x6 x1_0))) = spec_l6Detour.bs k n
  | 0 => rfl
  | n + 1 => by
    show ((fun x3 x4 x1_0 => FF (spec_l6Detour.E k) (n + 1) spec_l6Detour.S3 (spec_l6Detour.m3 x3 x4 x1_0)), (fun x3 x4 x5 x1_0 => FF (spec_l6Detour.E k) (n + 1) spec_l6Detour.S6 (spec_l6Detour.m6 x3 x4 x5 x1_0)), (fun x3 x4 x5 x6 x1_0 => FF (spec_l6Detour.E k) (n + 1) spec_l6Detour.S9 (spec_l6Detour.m9 x3 x4 x5 x6 x1_0))) = (spec_l6Detour.B3 k ((spec_l6Detour.bs k n).1) ((spec_l6Detour.bs k n).2.1) ((spec_l6Detour.bs k n).2.2), spec_l6Detour.B6 k ((spec_l6Detour.bs k n).1) ((spec_l6Detour.bs k n).2.1) ((spec_l6Detour.bs k n).2.2), spec_l6Detour.B9 k ((spec_l6Detour.bs k n).1) ((spec_l6Detour.bs k n).2.1) ((spec_l6Detour.bs k n).2.2))
    rw [← spec_l6Detour.ff k n]
    exact (Prod.ext (funext fun x3 => funext fun x4 => funext fun x1_0 => by dsimp only; exact (FF_succ ..).trans (spec_l6Detour.h3 k (fun t s => FF (spec_l6Detour.E k) n t s) x3 x4 x1_0)) (Prod.ext (funext fun x3 => funext fun x4 => funext fun x5 => funext fun x1_0 => by dsimp only; exact (FF_succ ..).trans (spec_l6Detour.h6 k (fun t s => FF (spec_l6Detour.E k) n t s) x3 x4 x5 x1_0)) (funext fun x3 => funext fun x4 => funext fun x5 => funext fun x6 => funext fun x1_0 => by dsimp only; exact (FF_succ ..).trans (spec_l6Detour.h9 k (fun t s => FF (spec_l6Detour.E k) n t s) x3 x4 x5 x6 x1_0))))
theorem spec_l6Detour.run (k : Nat) (a0 : List (List Int)): FF (spec_l6Detour.E k) (k + 1) [.code (bodyOf Tryz.f101)] (stA (spec_l6Detour.E k) [.v (.list (.list (.int .i64))) a0]) = spec_l6Detour.f k a0 :=
  (FF_succ ..).trans ((spec_l6Detour.h k (fun t s => FF (spec_l6Detour.E k) k t s) a0).trans (by
    show _ = spec_l6Detour.B k ((spec_l6Detour.bs k k).1) ((spec_l6Detour.bs k k).2.1) ((spec_l6Detour.bs k k).2.2) a0
    rw [← spec_l6Detour.ff k k]))
theorem spec_l6Detour.ok (k : Nat) : FnOK Tryz.prog spec_l6Detour.ent spec_l6Detour.ts spec_l6Detour.rs fun a => spec_l6Detour.f k a :=
  ⟨hasBody_of Tryz.func101 (by kernel_rfl), by kernel_rfl, by kernel_rfl, fun a r hr => good_of (E := (spec_l6Detour.E k)) (k := (k + 1)) (xs := encL spec_l6Detour.ts a) (spec_l6Detour.eok k) (body := (bodyOf Tryz.f101)) (by kernel_rfl) (by kernel_rfl) ((spec_l6Detour.run k a).trans hr)⟩

def spec_l6Good.B (k : Nat) (a0 : List (List Int)) : Option (Bool) :=
  (spec_l6Table.f k a0 false).bind fun t1 => (bif t1 then ((spec_l6Detour.f k a0).bind fun t2 => some (decide ((t2.length : Int) = (0 : Int)))) else some false)
def spec_l6Good.f (k : Nat) (a0 : List (List Int)) : Option (Bool) := spec_l6Good.B k a0
def spec_l6Good.ent : Ent := ⟨68, [.agg [.h (.list (.list (.int .i64)))]], [], .h (.bool), [], 50⟩
abbrev spec_l6Good.ts : List Ty := [.list (.list (.int .i64))]
abbrev spec_l6Good.rs : List Ty := [.bool]
noncomputable def spec_l6Good.E (k : Nat) : Env :=
  ⟨tab, 11, spec_l6Good.ent, spec_l6Good.rs, [spec_l6Table.ent, spec_l6Detour.ent], ctOf [(48, mkF spec_l6Table.ts spec_l6Table.rs fun a => spec_l6Table.f k a.1 a.2),
    (49, mkF spec_l6Detour.ts spec_l6Detour.rs fun a => spec_l6Detour.f k a)], [], [.tmp 2]⟩
theorem spec_l6Good.h (k : Nat) (R : List Item → St → Option (PD spec_l6Good.rs)) (a0 : List (List Int)) : run (spec_l6Good.E k) R 4000 true [.code (bodyOf Tryz.f68)] (stA (spec_l6Good.E k) [.v (.list (.list (.int .i64))) a0]) = spec_l6Good.B k a0 := by kernel_rfl
theorem spec_l6Good.eok (k : Nat) : EOk Tryz.prog (spec_l6Good.E k) Tryz.f68 :=
  ⟨Tryz.func68, Tryz.ntmps68, by kernel_rfl, tab_ok, mixed, cuts_of (by kernel_rfl), Tab.ok (.cons (spec_l6Table.ok k) (by kernel_rfl) (.cons (spec_l6Detour.ok k) (by kernel_rfl) .nil)), by kernel_rfl⟩
theorem spec_l6Good.run (k : Nat) (a0 : List (List Int)): FF (spec_l6Good.E k) 1 [.code (bodyOf Tryz.f68)] (stA (spec_l6Good.E k) [.v (.list (.list (.int .i64))) a0]) = spec_l6Good.f k a0 :=
  (FF_succ ..).trans (spec_l6Good.h k (fun t s => FF (spec_l6Good.E k) 0 t s) a0)
theorem spec_l6Good.ok (k : Nat) : FnOK Tryz.prog spec_l6Good.ent spec_l6Good.ts spec_l6Good.rs fun a => spec_l6Good.f k a :=
  ⟨hasBody_of Tryz.func68 (by kernel_rfl), by kernel_rfl, by kernel_rfl, fun a r hr => good_of (E := (spec_l6Good.E k)) (k := 1) (xs := encL spec_l6Good.ts a) (spec_l6Good.eok k) (body := (bodyOf Tryz.f68)) (by kernel_rfl) (by kernel_rfl) ((spec_l6Good.run k a).trans hr)⟩

def spec_l8Good.B4 (k : Nat) (r4 : Int → List (List Int) → List (List Int) → Option (Bool)) (x3 : Int) (x1_0 : List (List Int)) (x1_1 : List (List Int)) : Option (Bool) :=
  bif decide (x3 < (x1_1.length : Int)) then (if (0 : Int) ≤ x3 ∧ x3 < (x1_1.length : Int) then ((spec_l8Request.f k (x1_0.length : Int) (x1_1.getD x3.toNat [])).bind fun t4 => (bif !t4 then some false else (r4 (w64 (x3 + 1)) x1_0 x1_1))) else none) else some true
def spec_l8Good.B (k : Nat) (r4 : Int → List (List Int) → List (List Int) → Option (Bool)) (a0 : List (List Int)) (a1 : List (List Int)) : Option (Bool) :=
  (spec_l1In.f (a0.length : Int) 1 4).bind fun t1 => (bif !t1 then some false else ((spec_l6Good.f k a0).bind fun t2 => (bif !t2 then some false else ((spec_l1In.f (a1.length : Int) 1 4).bind fun t3 => (bif !t3 then some false else (r4 0 a0 a1))))))
def spec_l8Good.bs (k : Nat) : Nat → (Int → List (List Int) → List (List Int) → Option (Bool))
  | 0 => (fun _ _ _ => none)
  | n + 1 => (spec_l8Good.B4 k ((spec_l8Good.bs k n)))
def spec_l8Good.f (k : Nat) (a0 : List (List Int)) (a1 : List (List Int)) : Option (Bool) := spec_l8Good.B k ((spec_l8Good.bs k k)) a0 a1
def spec_l8Good.ent : Ent := ⟨22, [.agg [.h (.list (.list (.int .i64))), .h (.list (.list (.int .i64)))]], [], .h (.bool), [], 51⟩
abbrev spec_l8Good.ts : List Ty := [.list (.list (.int .i64)), .list (.list (.int .i64))]
abbrev spec_l8Good.rs : List Ty := [.bool]
def spec_l8Good.c4 : Cut := ⟨4, [(1, .p 0), (3, .h (.int .i64))], [.box [.h (.list (.list (.int .i64))), .h (.list (.list (.int .i64)))]]⟩
noncomputable def spec_l8Good.E (k : Nat) : Env :=
  ⟨tab, 40, spec_l8Good.ent, spec_l8Good.rs, [spec_l1In.ent, spec_l6Good.ent, spec_l8Request.ent], ctOf [(10, mkF spec_l1In.ts spec_l1In.rs fun a => spec_l1In.f a.1 a.2.1 a.2.2),
    (50, mkF spec_l6Good.ts spec_l6Good.rs fun a => spec_l6Good.f k a),
    (11, mkF spec_l8Request.ts spec_l8Request.rs fun a => spec_l8Request.f k a.1 a.2)], [spec_l8Good.c4], [.tmp 2]⟩
noncomputable def spec_l8Good.S4 : List Item := stk (bodyOf Tryz.f22) 4
noncomputable def spec_l8Good.m4 (x3 : Int) (x1_0 : List (List Int)) (x1_1 : List (List Int)) : St := mkS spec_l8Good.c4 [.v (.int .i64) x3, .v (.list (.list (.int .i64))) x1_0, .v (.list (.list (.int .i64))) x1_1]
theorem spec_l8Good.h4 (k : Nat) (R : List Item → St → Option (PD spec_l8Good.rs)) (x3 : Int) (x1_0 : List (List Int)) (x1_1 : List (List Int)) : run (spec_l8Good.E k) R 4000 true spec_l8Good.S4 (spec_l8Good.m4 x3 x1_0 x1_1) = spec_l8Good.B4 k (fun x3 x1_0 x1_1 => R spec_l8Good.S4 (spec_l8Good.m4 x3 x1_0 x1_1)) x3 x1_0 x1_1 := by kernel_rfl
theorem spec_l8Good.h (k : Nat) (R : List Item → St → Option (PD spec_l8Good.rs)) (a0 : List (List Int)) (a1 : List (List Int)) : run (spec_l8Good.E k) R 4000 true [.code (bodyOf Tryz.f22)] (stA (spec_l8Good.E k) [.v (.list (.list (.int .i64))) a0, .v (.list (.list (.int .i64))) a1]) = spec_l8Good.B k (fun x3 x1_0 x1_1 => R spec_l8Good.S4 (spec_l8Good.m4 x3 x1_0 x1_1)) a0 a1 := by kernel_rfl
theorem spec_l8Good.eok (k : Nat) : EOk Tryz.prog (spec_l8Good.E k) Tryz.f22 :=
  ⟨Tryz.func22, Tryz.ntmps22, by kernel_rfl, tab_ok, mixed, cuts_of (by kernel_rfl), Tab.ok (.cons (spec_l1In.ok) (by kernel_rfl) (.cons (spec_l6Good.ok k) (by kernel_rfl) (.cons (spec_l8Request.ok k) (by kernel_rfl) .nil))), by kernel_rfl⟩
theorem spec_l8Good.ff (k : Nat) : ∀ n : Nat, (fun x3 x1_0 x1_1 => FF (spec_l8Good.E k) n spec_l8Good.S4 (spec_l8Good.m4 x3 x1_0 x1_1)) = spec_l8Good.bs k n
  | 0 => rfl
  | n + 1 => by
    show (fun x3 x1_0 x1_1 => FF (spec_l8Good.E k) (n + 1) spec_l8Good.S4 (spec_l8Good.m4 x3 x1_0 x1_1)) = (spec_l8Good.B4 k ((spec_l8Good.bs k n)))
    rw [← spec_l8Good.ff k n]
    exact (funext fun x3 => funext fun x1_0 => funext fun x1_1 => (FF_succ ..).trans (spec_l8Good.h4 k (fun t s => FF (spec_l8Good.E k) n t s) x3 x1_0 x1_1))
theorem spec_l8Good.run (k : Nat) (a0 : List (List Int)) (a1 : List (List Int)): FF (spec_l8Good.E k) (k + 1) [.code (bodyOf Tryz.f22)] (stA (spec_l8Good.E k) [.v (.list (.list (.int .i64))) a0, .v (.list (.list (.int .i64))) a1]) = spec_l8Good.f k a0 a1 :=
  (FF_succ ..).trans ((spec_l8Good.h k (fun t s => FF (spec_l8Good.E k) k t s) a0 a1).trans (by
    show _ = spec_l8Good.B k ((spec_l8Good.bs k k)) a0 a1
    rw [← spec_l8Good.ff k k]))
theorem spec_l8Good.ok (k : Nat) : FnOK Tryz.prog spec_l8Good.ent spec_l8Good.ts spec_l8Good.rs fun a => spec_l8Good.f k a.1 a.2 :=
  ⟨hasBody_of Tryz.func22 (by kernel_rfl), by kernel_rfl, by kernel_rfl, fun a r hr => good_of (E := (spec_l8Good.E k)) (k := (k + 1)) (xs := encL spec_l8Good.ts a) (spec_l8Good.eok k) (body := (bodyOf Tryz.f22)) (by kernel_rfl) (by kernel_rfl) ((spec_l8Good.run k a.1 a.2).trans hr)⟩

def spec_l11Weights.B2 (k : Nat) (r2 : List Int → Int → Int → Option (Bool)) (x0 : List Int) (x1 : Int) (x5 : Int) : Option (Bool) :=
  bif decide (x5 < (x0.length : Int)) then (if (0 : Int) ≤ x5 ∧ x5 < (x0.length : Int) then ((spec_l1In.f (x0.getD x5.toNat 0) x1 9).bind fun t1 => (bif !t1 then some false else (r2 x0 x1 (w64 (x5 + 1))))) else none) else some true
def spec_l11Weights.B (k : Nat) (r2 : List Int → Int → Int → Option (Bool)) (a0 : List Int) (a1 : Int) : Option (Bool) :=
  r2 a0 a1 0
def spec_l11Weights.bs (k : Nat) : Nat → (List Int → Int → Int → Option (Bool))
  | 0 => (fun _ _ _ => none)
  | n + 1 => (spec_l11Weights.B2 k ((spec_l11Weights.bs k n)))
def spec_l11Weights.f (k : Nat) (a0 : List Int) (a1 : Int) : Option (Bool) := spec_l11Weights.B k ((spec_l11Weights.bs k k)) a0 a1
def spec_l11Weights.ent : Ent := ⟨69, [.h (.list (.int .i64)), .h (.int .i64)], [], .h (.bool), [], 52⟩
abbrev spec_l11Weights.ts : List Ty := [.list (.int .i64), .int .i64]
abbrev spec_l11Weights.rs : List Ty := [.bool]
def spec_l11Weights.c2 : Cut := ⟨2, [(0, .h (.list (.int .i64))), (1, .h (.int .i64)), (5, .h (.int .i64))], []⟩
noncomputable def spec_l11Weights.E (k : Nat) : Env :=
  ⟨tab, 19, spec_l11Weights.ent, spec_l11Weights.rs, [spec_l1In.ent], ctOf [(10, mkF spec_l1In.ts spec_l1In.rs fun a => spec_l1In.f a.1 a.2.1 a.2.2)], [spec_l11Weights.c2], [.tmp 4]⟩
noncomputable def spec_l11Weights.S2 : List Item := stk (bodyOf Tryz.f69) 2
noncomputable def spec_l11Weights.m2 (x0 : List Int) (x1 : Int) (x5 : Int) : St := mkS spec_l11Weights.c2 [.v (.list (.int .i64)) x0, .v (.int .i64) x1, .v (.int .i64) x5]
theorem spec_l11Weights.h2 (k : Nat) (R : List Item → St → Option (PD spec_l11Weights.rs)) (x0 : List Int) (x1 : Int) (x5 : Int) : run (spec_l11Weights.E k) R 4000 true spec_l11Weights.S2 (spec_l11Weights.m2 x0 x1 x5) = spec_l11Weights.B2 k (fun x0 x1 x5 => R spec_l11Weights.S2 (spec_l11Weights.m2 x0 x1 x5)) x0 x1 x5 := by kernel_rfl
theorem spec_l11Weights.h (k : Nat) (R : List Item → St → Option (PD spec_l11Weights.rs)) (a0 : List Int) (a1 : Int) : run (spec_l11Weights.E k) R 4000 true [.code (bodyOf Tryz.f69)] (stA (spec_l11Weights.E k) [.v (.list (.int .i64)) a0, .v (.int .i64) a1]) = spec_l11Weights.B k (fun x0 x1 x5 => R spec_l11Weights.S2 (spec_l11Weights.m2 x0 x1 x5)) a0 a1 := by kernel_rfl
theorem spec_l11Weights.eok (k : Nat) : EOk Tryz.prog (spec_l11Weights.E k) Tryz.f69 :=
  ⟨Tryz.func69, Tryz.ntmps69, by kernel_rfl, tab_ok, mixed, cuts_of (by kernel_rfl), Tab.ok (.cons (spec_l1In.ok) (by kernel_rfl) .nil), by kernel_rfl⟩
theorem spec_l11Weights.ff (k : Nat) : ∀ n : Nat, (fun x0 x1 x5 => FF (spec_l11Weights.E k) n spec_l11Weights.S2 (spec_l11Weights.m2 x0 x1 x5)) = spec_l11Weights.bs k n
  | 0 => rfl
  | n + 1 => by
    show (fun x0 x1 x5 => FF (spec_l11Weights.E k) (n + 1) spec_l11Weights.S2 (spec_l11Weights.m2 x0 x1 x5)) = (spec_l11Weights.B2 k ((spec_l11Weights.bs k n)))
    rw [← spec_l11Weights.ff k n]
    exact (funext fun x0 => funext fun x1 => funext fun x5 => (FF_succ ..).trans (spec_l11Weights.h2 k (fun t s => FF (spec_l11Weights.E k) n t s) x0 x1 x5))
theorem spec_l11Weights.run (k : Nat) (a0 : List Int) (a1 : Int): FF (spec_l11Weights.E k) (k + 1) [.code (bodyOf Tryz.f69)] (stA (spec_l11Weights.E k) [.v (.list (.int .i64)) a0, .v (.int .i64) a1]) = spec_l11Weights.f k a0 a1 :=
  (FF_succ ..).trans ((spec_l11Weights.h k (fun t s => FF (spec_l11Weights.E k) k t s) a0 a1).trans (by
    show _ = spec_l11Weights.B k ((spec_l11Weights.bs k k)) a0 a1
    rw [← spec_l11Weights.ff k k]))
theorem spec_l11Weights.ok (k : Nat) : FnOK Tryz.prog spec_l11Weights.ent spec_l11Weights.ts spec_l11Weights.rs fun a => spec_l11Weights.f k a.1 a.2 :=
  ⟨hasBody_of Tryz.func69 (by kernel_rfl), by kernel_rfl, by kernel_rfl, fun a r hr => good_of (E := (spec_l11Weights.E k)) (k := (k + 1)) (xs := encL spec_l11Weights.ts a) (spec_l11Weights.eok k) (body := (bodyOf Tryz.f69)) (by kernel_rfl) (by kernel_rfl) ((spec_l11Weights.run k a.1 a.2).trans hr)⟩

def spec_l8Takes.B4 (k : Nat) (r4 : List Int → Int → List (List Int) → List (List Int) → Option (Bool)) (x2 : List Int) (x7 : Int) (x3_0 : List (List Int)) (x3_1 : List (List Int)) : Option (Bool) :=
  bif decide (x7 < (x2.length : Int)) then (if (0 : Int) ≤ x7 ∧ x7 < (x2.length : Int) then ((spec_l1In.f (x2.getD x7.toNat 0) 0 (w64 ((x3_1.length : Int) - 1))).bind fun t3 => (bif !t3 then some false else (r4 x2 (w64 (x7 + 1)) x3_0 x3_1))) else none) else some true
def spec_l8Takes.B (k : Nat) (r4 : List Int → Int → List (List Int) → List (List Int) → Option (Bool)) (a0 : List (List Int)) (a1 : List (List Int)) (a2 : Int) (a3 : List Int) : Option (Bool) :=
  (spec_l8Good.f k a0 a1).bind fun t1 => (bif !t1 then some false else ((spec_l1In.f a2 0 (w64 ((a0.length : Int) - 1))).bind fun t2 => (bif !t2 then some false else (bif decide ((60 : Int) < (a3.length : Int)) then some false else (r4 a3 0 a0 a1)))))
def spec_l8Takes.bs (k : Nat) : Nat → (List Int → Int → List (List Int) → List (List Int) → Option (Bool))
  | 0 => (fun _ _ _ _ => none)
  | n + 1 => (spec_l8Takes.B4 k ((spec_l8Takes.bs k n)))
def spec_l8Takes.f (k : Nat) (a0 : List (List Int)) (a1 : List (List Int)) (a2 : Int) (a3 : List Int) : Option (Bool) := spec_l8Takes.B k ((spec_l8Takes.bs k k)) a0 a1 a2 a3
def spec_l8Takes.ent : Ent := ⟨70, [.agg [.h (.list (.list (.int .i64))), .h (.list (.list (.int .i64)))], .h (.int .i64), .h (.list (.int .i64))], [], .h (.bool), [], 53⟩
abbrev spec_l8Takes.ts : List Ty := [.list (.list (.int .i64)), .list (.list (.int .i64)), .int .i64, .list (.int .i64)]
abbrev spec_l8Takes.rs : List Ty := [.bool]
def spec_l8Takes.c4 : Cut := ⟨4, [(2, .h (.list (.int .i64))), (3, .p 0), (7, .h (.int .i64))], [.box [.h (.list (.list (.int .i64))), .h (.list (.list (.int .i64)))]]⟩
noncomputable def spec_l8Takes.E (k : Nat) : Env :=
  ⟨tab, 41, spec_l8Takes.ent, spec_l8Takes.rs, [spec_l8Good.ent, spec_l1In.ent], ctOf [(51, mkF spec_l8Good.ts spec_l8Good.rs fun a => spec_l8Good.f k a.1 a.2),
    (10, mkF spec_l1In.ts spec_l1In.rs fun a => spec_l1In.f a.1 a.2.1 a.2.2)], [spec_l8Takes.c4], [.tmp 6]⟩
noncomputable def spec_l8Takes.S4 : List Item := stk (bodyOf Tryz.f70) 4
noncomputable def spec_l8Takes.m4 (x2 : List Int) (x7 : Int) (x3_0 : List (List Int)) (x3_1 : List (List Int)) : St := mkS spec_l8Takes.c4 [.v (.list (.int .i64)) x2, .v (.int .i64) x7, .v (.list (.list (.int .i64))) x3_0, .v (.list (.list (.int .i64))) x3_1]
theorem spec_l8Takes.h4 (k : Nat) (R : List Item → St → Option (PD spec_l8Takes.rs)) (x2 : List Int) (x7 : Int) (x3_0 : List (List Int)) (x3_1 : List (List Int)) : run (spec_l8Takes.E k) R 4000 true spec_l8Takes.S4 (spec_l8Takes.m4 x2 x7 x3_0 x3_1) = spec_l8Takes.B4 k (fun x2 x7 x3_0 x3_1 => R spec_l8Takes.S4 (spec_l8Takes.m4 x2 x7 x3_0 x3_1)) x2 x7 x3_0 x3_1 := by kernel_rfl
theorem spec_l8Takes.h (k : Nat) (R : List Item → St → Option (PD spec_l8Takes.rs)) (a0 : List (List Int)) (a1 : List (List Int)) (a2 : Int) (a3 : List Int) : run (spec_l8Takes.E k) R 4000 true [.code (bodyOf Tryz.f70)] (stA (spec_l8Takes.E k) [.v (.list (.list (.int .i64))) a0, .v (.list (.list (.int .i64))) a1, .v (.int .i64) a2, .v (.list (.int .i64)) a3]) = spec_l8Takes.B k (fun x2 x7 x3_0 x3_1 => R spec_l8Takes.S4 (spec_l8Takes.m4 x2 x7 x3_0 x3_1)) a0 a1 a2 a3 := by kernel_rfl
theorem spec_l8Takes.eok (k : Nat) : EOk Tryz.prog (spec_l8Takes.E k) Tryz.f70 :=
  ⟨Tryz.func70, Tryz.ntmps70, by kernel_rfl, tab_ok, mixed, cuts_of (by kernel_rfl), Tab.ok (.cons (spec_l8Good.ok k) (by kernel_rfl) (.cons (spec_l1In.ok) (by kernel_rfl) .nil)), by kernel_rfl⟩
theorem spec_l8Takes.ff (k : Nat) : ∀ n : Nat, (fun x2 x7 x3_0 x3_1 => FF (spec_l8Takes.E k) n spec_l8Takes.S4 (spec_l8Takes.m4 x2 x7 x3_0 x3_1)) = spec_l8Takes.bs k n
  | 0 => rfl
  | n + 1 => by
    show (fun x2 x7 x3_0 x3_1 => FF (spec_l8Takes.E k) (n + 1) spec_l8Takes.S4 (spec_l8Takes.m4 x2 x7 x3_0 x3_1)) = (spec_l8Takes.B4 k ((spec_l8Takes.bs k n)))
    rw [← spec_l8Takes.ff k n]
    exact (funext fun x2 => funext fun x7 => funext fun x3_0 => funext fun x3_1 => (FF_succ ..).trans (spec_l8Takes.h4 k (fun t s => FF (spec_l8Takes.E k) n t s) x2 x7 x3_0 x3_1))
theorem spec_l8Takes.run (k : Nat) (a0 : List (List Int)) (a1 : List (List Int)) (a2 : Int) (a3 : List Int): FF (spec_l8Takes.E k) (k + 1) [.code (bodyOf Tryz.f70)] (stA (spec_l8Takes.E k) [.v (.list (.list (.int .i64))) a0, .v (.list (.list (.int .i64))) a1, .v (.int .i64) a2, .v (.list (.int .i64)) a3]) = spec_l8Takes.f k a0 a1 a2 a3 :=
  (FF_succ ..).trans ((spec_l8Takes.h k (fun t s => FF (spec_l8Takes.E k) k t s) a0 a1 a2 a3).trans (by
    show _ = spec_l8Takes.B k ((spec_l8Takes.bs k k)) a0 a1 a2 a3
    rw [← spec_l8Takes.ff k k]))
theorem spec_l8Takes.ok (k : Nat) : FnOK Tryz.prog spec_l8Takes.ent spec_l8Takes.ts spec_l8Takes.rs fun a => spec_l8Takes.f k a.1 a.2.1 a.2.2.1 a.2.2.2 :=
  ⟨hasBody_of Tryz.func70 (by kernel_rfl), by kernel_rfl, by kernel_rfl, fun a r hr => good_of (E := (spec_l8Takes.E k)) (k := (k + 1)) (xs := encL spec_l8Takes.ts a) (spec_l8Takes.eok k) (body := (bodyOf Tryz.f70)) (by kernel_rfl) (by kernel_rfl) ((spec_l8Takes.run k a.1 a.2.1 a.2.2.1 a.2.2.2).trans hr)⟩

def spec_l11Chances.B4 (k : Nat) (r4 : Int → List (List Int) → List (List Int) → List Int → List (List Int) → Option (Bool)) (x5 : Int) (x2_0 : List (List Int)) (x2_1 : List (List Int)) (x3_0 : List Int) (x3_1 : List (List Int)) : Option (Bool) :=
  bif decide (x5 < (x3_1.length : Int)) then (if (0 : Int) ≤ x5 ∧ x5 < (x3_1.length : Int) then (if (0 : Int) ≤ 0 ∧ (0 : Int) < (x3_1.length : Int) then (bif !decide (((x3_1.getD x5.toNat []).length : Int) = ((x3_1.getD 0 []).length : Int)) then some false else (if (0 : Int) ≤ x5 ∧ x5 < (x3_1.length : Int) then (bif decide ((6 : Int) < ((x3_1.getD x5.toNat []).length : Int)) then some false else (if (0 : Int) ≤ x5 ∧ x5 < (x3_1.length : Int) then ((spec_l8Takes.f k x2_0 x2_1 0 (x3_1.getD x5.toNat [])).bind fun t4 => (bif !t4 then some false else (r4 (w64 (x5 + 1)) x2_0 x2_1 x3_0 x3_1))) else none)) else none)) else none) else none) else some true
def spec_l11Chances.B (k : Nat) (r4 : Int → List (List Int) → List (List Int) → List Int → List (List Int) → Option (Bool)) (a0 : List (List Int)) (a1 : List (List Int)) (a2 : List Int) (a3 : List (List Int)) : Option (Bool) :=
  (spec_l8Good.f k a0 a1).bind fun t1 => (bif !t1 then some false else ((spec_l1In.f (a3.length : Int) 1 12).bind fun t2 => (bif !t2 then some false else (bif !decide ((a2.length : Int) = (a3.length : Int)) then some false else ((spec_l11Weights.f k a2 1).bind fun t3 => (bif !t3 then some false else (r4 0 a0 a1 a2 a3)))))))
def spec_l11Chances.bs (k : Nat) : Nat → (Int → List (List Int) → List (List Int) → List Int → List (List Int) → Option (Bool))
  | 0 => (fun _ _ _ _ _ => none)
  | n + 1 => (spec_l11Chances.B4 k ((spec_l11Chances.bs k n)))
def spec_l11Chances.f (k : Nat) (a0 : List (List Int)) (a1 : List (List Int)) (a2 : List Int) (a3 : List (List Int)) : Option (Bool) := spec_l11Chances.B k ((spec_l11Chances.bs k k)) a0 a1 a2 a3
def spec_l11Chances.ent : Ent := ⟨23, [.agg [.h (.list (.list (.int .i64))), .h (.list (.list (.int .i64)))], .agg [.h (.list (.int .i64)), .h (.list (.list (.int .i64)))]], [], .h (.bool), [], 54⟩
abbrev spec_l11Chances.ts : List Ty := [.list (.list (.int .i64)), .list (.list (.int .i64)), .list (.int .i64), .list (.list (.int .i64))]
abbrev spec_l11Chances.rs : List Ty := [.bool]
def spec_l11Chances.c4 : Cut := ⟨4, [(2, .p 0), (3, .p 1), (5, .h (.int .i64))], [.box [.h (.list (.list (.int .i64))), .h (.list (.list (.int .i64)))], .box [.h (.list (.int .i64)), .h (.list (.list (.int .i64)))]]⟩
noncomputable def spec_l11Chances.E (k : Nat) : Env :=
  ⟨tab, 69, spec_l11Chances.ent, spec_l11Chances.rs, [spec_l8Good.ent, spec_l1In.ent, spec_l11Weights.ent, spec_l8Takes.ent], ctOf [(51, mkF spec_l8Good.ts spec_l8Good.rs fun a => spec_l8Good.f k a.1 a.2),
    (10, mkF spec_l1In.ts spec_l1In.rs fun a => spec_l1In.f a.1 a.2.1 a.2.2),
    (52, mkF spec_l11Weights.ts spec_l11Weights.rs fun a => spec_l11Weights.f k a.1 a.2),
    (53, mkF spec_l8Takes.ts spec_l8Takes.rs fun a => spec_l8Takes.f k a.1 a.2.1 a.2.2.1 a.2.2.2)], [spec_l11Chances.c4], [.tmp 4]⟩
noncomputable def spec_l11Chances.S4 : List Item := stk (bodyOf Tryz.f23) 4
noncomputable def spec_l11Chances.m4 (x5 : Int) (x2_0 : List (List Int)) (x2_1 : List (List Int)) (x3_0 : List Int) (x3_1 : List (List Int)) : St := mkS spec_l11Chances.c4 [.v (.int .i64) x5, .v (.list (.list (.int .i64))) x2_0, .v (.list (.list (.int .i64))) x2_1, .v (.list (.int .i64)) x3_0, .v (.list (.list (.int .i64))) x3_1]
theorem spec_l11Chances.h4 (k : Nat) (R : List Item → St → Option (PD spec_l11Chances.rs)) (x5 : Int) (x2_0 : List (List Int)) (x2_1 : List (List Int)) (x3_0 : List Int) (x3_1 : List (List Int)) : run (spec_l11Chances.E k) R 4000 true spec_l11Chances.S4 (spec_l11Chances.m4 x5 x2_0 x2_1 x3_0 x3_1) = spec_l11Chances.B4 k (fun x5 x2_0 x2_1 x3_0 x3_1 => R spec_l11Chances.S4 (spec_l11Chances.m4 x5 x2_0 x2_1 x3_0 x3_1)) x5 x2_0 x2_1 x3_0 x3_1 := by kernel_rfl
theorem spec_l11Chances.h (k : Nat) (R : List Item → St → Option (PD spec_l11Chances.rs)) (a0 : List (List Int)) (a1 : List (List Int)) (a2 : List Int) (a3 : List (List Int)) : run (spec_l11Chances.E k) R 4000 true [.code (bodyOf Tryz.f23)] (stA (spec_l11Chances.E k) [.v (.list (.list (.int .i64))) a0, .v (.list (.list (.int .i64))) a1, .v (.list (.int .i64)) a2, .v (.list (.list (.int .i64))) a3]) = spec_l11Chances.B k (fun x5 x2_0 x2_1 x3_0 x3_1 => R spec_l11Chances.S4 (spec_l11Chances.m4 x5 x2_0 x2_1 x3_0 x3_1)) a0 a1 a2 a3 := by kernel_rfl
theorem spec_l11Chances.eok (k : Nat) : EOk Tryz.prog (spec_l11Chances.E k) Tryz.f23 :=
  ⟨Tryz.func23, Tryz.ntmps23, by kernel_rfl, tab_ok, mixed, cuts_of (by kernel_rfl), Tab.ok (.cons (spec_l8Good.ok k) (by kernel_rfl) (.cons (spec_l1In.ok) (by kernel_rfl) (.cons (spec_l11Weights.ok k) (by kernel_rfl) (.cons (spec_l8Takes.ok k) (by kernel_rfl) .nil)))), by kernel_rfl⟩
theorem spec_l11Chances.ff (k : Nat) : ∀ n : Nat, (fun x5 x2_0 x2_1 x3_0 x3_1 => FF (spec_l11Chances.E k) n spec_l11Chances.S4 (spec_l11Chances.m4 x5 x2_0 x2_1 x3_0 x3_1)) = spec_l11Chances.bs k n
  | 0 => rfl
  | n + 1 => by
    show (fun x5 x2_0 x2_1 x3_0 x3_1 => FF (spec_l11Chances.E k) (n + 1) spec_l11Chances.S4 (spec_l11Chances.m4 x5 x2_0 x2_1 x3_0 x3_1)) = (spec_l11Chances.B4 k ((spec_l11Chances.bs k n)))
    rw [← spec_l11Chances.ff k n]
    exact (funext fun x5 => funext fun x2_0 => funext fun x2_1 => funext fun x3_0 => funext fun x3_1 => (FF_succ ..).trans (spec_l11Chances.h4 k (fun t s => FF (spec_l11Chances.E k) n t s) x5 x2_0 x2_1 x3_0 x3_1))
theorem spec_l11Chances.run (k : Nat) (a0 : List (List Int)) (a1 : List (List Int)) (a2 : List Int) (a3 : List (List Int)): FF (spec_l11Chances.E k) (k + 1) [.code (bodyOf Tryz.f23)] (stA (spec_l11Chances.E k) [.v (.list (.list (.int .i64))) a0, .v (.list (.list (.int .i64))) a1, .v (.list (.int .i64)) a2, .v (.list (.list (.int .i64))) a3]) = spec_l11Chances.f k a0 a1 a2 a3 :=
  (FF_succ ..).trans ((spec_l11Chances.h k (fun t s => FF (spec_l11Chances.E k) k t s) a0 a1 a2 a3).trans (by
    show _ = spec_l11Chances.B k ((spec_l11Chances.bs k k)) a0 a1 a2 a3
    rw [← spec_l11Chances.ff k k]))
theorem spec_l11Chances.ok (k : Nat) : FnOK Tryz.prog spec_l11Chances.ent spec_l11Chances.ts spec_l11Chances.rs fun a => spec_l11Chances.f k a.1 a.2.1 a.2.2.1 a.2.2.2 :=
  ⟨hasBody_of Tryz.func23 (by kernel_rfl), by kernel_rfl, by kernel_rfl, fun a r hr => good_of (E := (spec_l11Chances.E k)) (k := (k + 1)) (xs := encL spec_l11Chances.ts a) (spec_l11Chances.eok k) (body := (bodyOf Tryz.f23)) (by kernel_rfl) (by kernel_rfl) ((spec_l11Chances.run k a.1 a.2.1 a.2.2.1 a.2.2.2).trans hr)⟩

def spec_IsChances.B (k : Nat) (a0 : List (List Int)) (a1 : List (List Int)) (a2 : List Int) (a3 : List (List Int)) : Option (Bool × Bool) :=
  (spec_l8Good.f k a0 a1).bind fun t1 => (bif !t1 then some (false, false) else ((spec_l11Chances.f k a0 a1 a2 a3).bind fun t2 => some (t2, true)))
def spec_IsChances.f (k : Nat) (a0 : List (List Int)) (a1 : List (List Int)) (a2 : List Int) (a3 : List (List Int)) : Option (Bool × Bool) := spec_IsChances.B k a0 a1 a2 a3
def spec_IsChances.ent : Ent := ⟨7, [.agg [.h (.list (.list (.int .i64))), .h (.list (.list (.int .i64)))], .agg [.h (.list (.int .i64)), .h (.list (.list (.int .i64)))]], [], .tup [.h (.bool), .h (.bool)], [], 55⟩
abbrev spec_IsChances.ts : List Ty := [.list (.list (.int .i64)), .list (.list (.int .i64)), .list (.int .i64), .list (.list (.int .i64))]
abbrev spec_IsChances.rs : List Ty := [.bool, .bool]
noncomputable def spec_IsChances.E (k : Nat) : Env :=
  ⟨tab, 12, spec_IsChances.ent, spec_IsChances.rs, [spec_l8Good.ent, spec_l11Chances.ent], ctOf [(51, mkF spec_l8Good.ts spec_l8Good.rs fun a => spec_l8Good.f k a.1 a.2),
    (54, mkF spec_l11Chances.ts spec_l11Chances.rs fun a => spec_l11Chances.f k a.1 a.2.1 a.2.2.1 a.2.2.2)], [], [.tmp 4, .tmp 5]⟩
theorem spec_IsChances.h (k : Nat) (R : List Item → St → Option (PD spec_IsChances.rs)) (a0 : List (List Int)) (a1 : List (List Int)) (a2 : List Int) (a3 : List (List Int)) : run (spec_IsChances.E k) R 4000 true [.code (bodyOf Tryz.f7)] (stA (spec_IsChances.E k) [.v (.list (.list (.int .i64))) a0, .v (.list (.list (.int .i64))) a1, .v (.list (.int .i64)) a2, .v (.list (.list (.int .i64))) a3]) = spec_IsChances.B k a0 a1 a2 a3 := by kernel_rfl
theorem spec_IsChances.eok (k : Nat) : EOk Tryz.prog (spec_IsChances.E k) Tryz.f7 :=
  ⟨Tryz.func7, Tryz.ntmps7, by kernel_rfl, tab_ok, mixed, cuts_of (by kernel_rfl), Tab.ok (.cons (spec_l8Good.ok k) (by kernel_rfl) (.cons (spec_l11Chances.ok k) (by kernel_rfl) .nil)), by kernel_rfl⟩
theorem spec_IsChances.run (k : Nat) (a0 : List (List Int)) (a1 : List (List Int)) (a2 : List Int) (a3 : List (List Int)): FF (spec_IsChances.E k) 1 [.code (bodyOf Tryz.f7)] (stA (spec_IsChances.E k) [.v (.list (.list (.int .i64))) a0, .v (.list (.list (.int .i64))) a1, .v (.list (.int .i64)) a2, .v (.list (.list (.int .i64))) a3]) = spec_IsChances.f k a0 a1 a2 a3 :=
  (FF_succ ..).trans (spec_IsChances.h k (fun t s => FF (spec_IsChances.E k) 0 t s) a0 a1 a2 a3)
theorem spec_IsChances.ok (k : Nat) : FnOK Tryz.prog spec_IsChances.ent spec_IsChances.ts spec_IsChances.rs fun a => spec_IsChances.f k a.1 a.2.1 a.2.2.1 a.2.2.2 :=
  ⟨hasBody_of Tryz.func7 (by kernel_rfl), by kernel_rfl, by kernel_rfl, fun a r hr => good_of (E := (spec_IsChances.E k)) (k := 1) (xs := encL spec_IsChances.ts a) (spec_IsChances.eok k) (body := (bodyOf Tryz.f7)) (by kernel_rfl) (by kernel_rfl) ((spec_IsChances.run k a.1 a.2.1 a.2.2.1 a.2.2.2).trans hr)⟩

def laws_vCut.B (a0 : List Int) (a1 : Int) : Option (List Int) :=
  bif decide ((a0.length : Int) < a1) then (if (0 : Int) ≤ (a0.length : Int) ∧ (a0.length : Int) ≤ (a0.length : Int) ∧ (a0.length : Int) ≤ (a0.length : Int) then (if 0 + (List.drop (a0.length : Int).toNat a0).length ≤ capB then (if ([] ++ (List.drop (a0.length : Int).toNat a0)).length + ([IntKind.u8.wrap ((a0.length : Int))]).length ≤ capB then some (([] ++ (List.drop (a0.length : Int).toNat a0)) ++ [IntKind.u8.wrap ((a0.length : Int))]) else none) else none) else none) else (if (0 : Int) ≤ a1 ∧ a1 ≤ (a0.length : Int) ∧ (a0.length : Int) ≤ (a0.length : Int) then (if 0 + (List.drop a1.toNat a0).length ≤ capB then (if ([] ++ (List.drop a1.toNat a0)).length + ([IntKind.u8.wrap (a1)]).length ≤ capB then some (([] ++ (List.drop a1.toNat a0)) ++ [IntKind.u8.wrap (a1)]) else none) else none) else none)
def laws_vCut.f (a0 : List Int) (a1 : Int) : Option (List Int) := laws_vCut.B a0 a1
def laws_vCut.ent : Ent := ⟨9, [.h (.list (.int .u8)), .h (.int .i64)], [], .own 0 (.int .u8), [.buf (.int .u8)], 56⟩
abbrev laws_vCut.ts : List Ty := [.list (.int .u8), .int .i64]
abbrev laws_vCut.rs : List Ty := [.list (.int .u8)]
noncomputable def laws_vCut.E : Env :=
  ⟨tab, 20, laws_vCut.ent, laws_vCut.rs, [], ctOf [], [], [.tmp 4]⟩
theorem laws_vCut.h (R : List Item → St → Option (PD laws_vCut.rs)) (a0 : List Int) (a1 : Int) : run (laws_vCut.E) R 4000 true [.code (bodyOf Tryz.f9)] (stA (laws_vCut.E) [.v (.list (.int .u8)) a0, .v (.int .i64) a1]) = laws_vCut.B a0 a1 := by kernel_rfl
theorem laws_vCut.eok : EOk Tryz.prog (laws_vCut.E) Tryz.f9 :=
  ⟨Tryz.func9, Tryz.ntmps9, by kernel_rfl, tab_ok, mixed, cuts_of (by kernel_rfl), Tab.ok .nil, by kernel_rfl⟩
theorem laws_vCut.run (a0 : List Int) (a1 : Int): FF (laws_vCut.E) 1 [.code (bodyOf Tryz.f9)] (stA (laws_vCut.E) [.v (.list (.int .u8)) a0, .v (.int .i64) a1]) = laws_vCut.f a0 a1 :=
  (FF_succ ..).trans (laws_vCut.h (fun t s => FF (laws_vCut.E) 0 t s) a0 a1)
theorem laws_vCut.ok : FnOK Tryz.prog laws_vCut.ent laws_vCut.ts laws_vCut.rs fun a => laws_vCut.f a.1 a.2 :=
  ⟨hasBody_of Tryz.func9 (by kernel_rfl), by kernel_rfl, by kernel_rfl, fun a r hr => good_of (E := (laws_vCut.E)) (k := 1) (xs := encL laws_vCut.ts a) (laws_vCut.eok) (body := (bodyOf Tryz.f9)) (by kernel_rfl) (by kernel_rfl) ((laws_vCut.run a.1 a.2).trans hr)⟩

def spec_l1Cur_algorithm.B3 (k : Nat) (r3 : Int → List Int → Int → Int → List (List Int) → List (List Int) → List (List Int) → Option (List (List Int) × List Int × Int × Int)) (r7 : Int → Int → List Int → Int → Int → List (List Int) → List (List Int) → List (List Int) → List Int → Option (List (List Int) × List Int × Int × Int)) (r11 : Int → Int → Int → Int → List Int → Int → Int → List (List Int) → List (List Int) → List (List Int) → List Int → Option (List (List Int) × List Int × Int × Int)) (x6 : Int) (x0_0 : List Int) (x0_1 : Int) (x0_2 : Int) (x3_0 : List (List Int)) (x3_1 : List (List Int)) (x5 : List (List Int)) : Option (List (List Int) × List Int × Int × Int) :=
  bif decide (x6 < (x3_0.length : Int)) then (r7 x6 0 x0_0 x0_1 x0_2 x3_0 x3_1 x5 []) else (bif decide ((0 : Int) < (x5.length : Int)) then (if (0 : Int) ≤ 0 ∧ (0 : Int) < (x5.length : Int) then (bif decide ((0 : Int) < ((x5.getD 0 []).length : Int)) then ((spec_l1Cur_pick.f 24 x0_0 x0_1 x0_2).bind fun t1 => (bif decide (t1.1 = (0 : Int)) then (if (0 : Int) ≤ 0 ∧ (0 : Int) < (x5.length : Int) then ((spec_l1Cur_among.f [(-1), (x3_0.length : Int), 0] t1.2.1 t1.2.2.1 t1.2.2.2).bind fun t2 => (if (0 : Int) ≤ 0 ∧ (0 : Int) < ((x5.getD 0 []).length : Int) then some (x5.set 0 ((x5.getD 0 []).set 0 t2.1), t2.2.1, t2.2.2.1, t2.2.2.2) else none)) else none) else (bif decide (t1.1 = (1 : Int)) then (if (0 : Int) ≤ 0 ∧ (0 : Int) < (x5.length : Int) then (if (x5.getD 0 []).length + 1 ≤ capB then (if (0 : Int) ≤ 0 ∧ (0 : Int) < (x5.length : Int) then (if 0 = 0 then some (x5.set 0 ((x5.getD 0 []) ++ [0]), t1.2.1, t1.2.2.1, t1.2.2.2) else none) else none) else none) else none) else (bif decide (t1.1 = (2 : Int)) then (if (0 : Int) ≤ 1 ∧ (1 : Int) ≤ (x5.length : Int) ∧ (x5.length : Int) ≤ (x5.length : Int) then some (List.take (((x5.length : Int) - 1).toNat) (List.drop 1 x5), t1.2.1, t1.2.2.1, t1.2.2.2) else none) else some (x5, t1.2.1, t1.2.2.1, t1.2.2.2))))) else some (x5, x0_0, x0_1, x0_2)) else none) else some (x5, x0_0, x0_1, x0_2))
def spec_l1Cur_algorithm.B7 (k : Nat) (r3 : Int → List Int → Int → Int → List (List Int) → List (List Int) → List (List Int) → Option (List (List Int) × List Int × Int × Int)) (r7 : Int → Int → List Int → Int → Int → List (List Int) → List (List Int) → List (List Int) → List Int → Option (List (List Int) × List Int × Int × Int)) (r11 : Int → Int → Int → Int → List Int → Int → Int → List (List Int) → List (List Int) → List (List Int) → List Int → Option (List (List Int) × List Int × Int × Int)) (x6 : Int) (x8 : Int) (x0_0 : List Int) (x0_1 : Int) (x0_2 : Int) (x3_0 : List (List Int)) (x3_1 : List (List Int)) (x5 : List (List Int)) (x7 : List Int) : Option (List (List Int) × List Int × Int × Int) :=
  bif decide (x8 < (x3_1.length : Int)) then ((spec_l1Cur_pick.f (x3_0.length : Int) x0_0 x0_1 x0_2).bind fun t3 => (r11 x6 x8 t3.1 0 t3.2.1 t3.2.2.1 t3.2.2.2 x3_0 x3_1 x5 x7)) else (if x5.length + 1 ≤ capB then (r3 (w64 (x6 + 1)) x0_0 x0_1 x0_2 x3_0 x3_1 (x5 ++ [x7])) else none)
def spec_l1Cur_algorithm.B11 (k : Nat) (r3 : Int → List Int → Int → Int → List (List Int) → List (List Int) → List (List Int) → Option (List (List Int) × List Int × Int × Int)) (r7 : Int → Int → List Int → Int → Int → List (List Int) → List (List Int) → List (List Int) → List Int → Option (List (List Int) × List Int × Int × Int)) (r11 : Int → Int → Int → Int → List Int → Int → Int → List (List Int) → List (List Int) → List (List Int) → List Int → Option (List (List Int) × List Int × Int × Int)) (x6 : Int) (x8 : Int) (x9 : Int) (x10 : Int) (x0_0 : List Int) (x0_1 : Int) (x0_2 : Int) (x3_0 : List (List Int)) (x3_1 : List (List Int)) (x5 : List (List Int)) (x7 : List Int) : Option (List (List Int) × List Int × Int × Int) :=
  bif decide (x10 < (x3_0.length : Int)) then (if (0 : Int) ≤ x8 ∧ x8 < (x3_1.length : Int) then (bif decide (((x3_1.getD x8.toNat []).length : Int) ≤ x9) then (if (x3_0.length : Int) ≠ 0 then (r11 x6 x8 (Int.tmod (w64 (x9 + 1)) (x3_0.length : Int)) (w64 (x10 + 1)) x0_0 x0_1 x0_2 x3_0 x3_1 x5 x7) else none) else (if (0 : Int) ≤ x8 ∧ x8 < (x3_1.length : Int) then (if (0 : Int) ≤ x9 ∧ x9 < ((x3_1.getD x8.toNat []).length : Int) then (bif decide ((x3_1.getD x8.toNat []).getD x9.toNat 0 < (0 : Int)) then (if (x3_0.length : Int) ≠ 0 then (r11 x6 x8 (Int.tmod (w64 (x9 + 1)) (x3_0.length : Int)) (w64 (x10 + 1)) x0_0 x0_1 x0_2 x3_0 x3_1 x5 x7) else none) else (if x7.length + 1 ≤ capB then (r7 x6 (w64 (x8 + 1)) x0_0 x0_1 x0_2 x3_0 x3_1 x5 (x7 ++ [x9])) else none)) else none) else none)) else none) else (if x7.length + 1 ≤ capB then (r7 x6 (w64 (x8 + 1)) x0_0 x0_1 x0_2 x3_0 x3_1 x5 (x7 ++ [x9])) else none)
def spec_l1Cur_algorithm.B (k : Nat) (r3 : Int → List Int → Int → Int → List (List Int) → List (List Int) → List (List Int) → Option (List (List Int) × List Int × Int × Int)) (r7 : Int → Int → List Int → Int → Int → List (List Int) → List (List Int) → List (List Int) → List Int → Option (List (List Int) × List Int × Int × Int)) (r11 : Int → Int → Int → Int → List Int → Int → Int → List (List Int) → List (List Int) → List (List Int) → List Int → Option (List (List Int) × List Int × Int × Int)) (a0 : List (List Int)) (a1 : List (List Int)) (a2 : List Int) (a3 : Int) (a4 : Int) : Option (List (List Int) × List Int × Int × Int) :=
  r3 0 a2 a3 a4 a0 a1 []
def spec_l1Cur_algorithm.bs (k : Nat) : Nat → (Int → List Int → Int → Int → List (List Int) → List (List Int) → List (List Int) → Option (List (List Int) × List Int × Int × Int)) × (Int → Int → List Int → Int → Int → List (List Int) → List (List Int) → List (List Int) → List Int → Option (List (List Int) × List Int × Int × Int)) × (Int → Int → Int → Int → List Int → Int → Int → List (List Int) → List (List Int) → List (List Int) → List Int → Option (List (List Int) × List Int × Int × Int))
  | 0 => (fun _ _ _ _ _ _ _ => none, fun _ _ _ _ _ _ _ _ _ => none, fun _ _ _ _ _ _ _ _ _ _ _ => none)
  | n + 1 => (spec_l1Cur_algorithm.B3 k ((spec_l1Cur_algorithm.bs k n).1) ((spec_l1Cur_algorithm.bs k n).2.1) ((spec_l1Cur_algorithm.bs k n).2.2), spec_l1Cur_algorithm.B7 k ((spec_l1Cur_algorithm.bs k n).1) ((spec_l1Cur_algorithm.bs k n).2.1) ((spec_l1Cur_algorithm.bs k n).2.2), spec_l1Cur_algorithm.B11 k ((spec_l1Cur_algorithm.bs k n).1) ((spec_l1Cur_algorithm.bs k n).2.1) ((spec_l1Cur_algorithm.bs k n).2.2))
def spec_l1Cur_algorithm.f (k : Nat) (a0 : List (List Int)) (a1 : List (List Int)) (a2 : List Int) (a3 : Int) (a4 : Int) : Option (List (List Int) × List Int × Int × Int) := spec_l1Cur_algorithm.B k ((spec_l1Cur_algorithm.bs k k).1) ((spec_l1Cur_algorithm.bs k k).2.1) ((spec_l1Cur_algorithm.bs k k).2.2) a0 a1 a2 a3 a4
def spec_l1Cur_algorithm.ent : Ent := ⟨24, [.p 0, .agg [.h (.list (.list (.int .i64))), .h (.list (.list (.int .i64)))]], [.box [.h (.list (.int .u8)), .h (.int .i64), .h (.int .u64)]], .h (.list (.list (.int .i64))), [.box [.h (.list (.int .u8)), .h (.int .i64), .h (.int .u64)]], 57⟩
abbrev spec_l1Cur_algorithm.ts : List Ty := [.list (.list (.int .i64)), .list (.list (.int .i64)), .list (.int .u8), .int .i64, .int .u64]
abbrev spec_l1Cur_algorithm.rs : List Ty := [.list (.list (.int .i64)), .list (.int .u8), .int .i64, .int .u64]
def spec_l1Cur_algorithm.c3 : Cut := ⟨3, [(0, .p 0), (3, .p 1), (5, .ownm 2 (.int .i64)), (6, .h (.int .i64))], [.box [.h (.list (.int .u8)), .h (.int .i64), .h (.int .u64)], .box [.h (.list (.list (.int .i64))), .h (.list (.list (.int .i64)))], .mat (.int .i64)]⟩
def spec_l1Cur_algorithm.c7 : Cut := ⟨7, [(0, .p 0), (3, .p 1), (5, .ownm 2 (.int .i64)), (6, .h (.int .i64)), (7, .own 3 (.int .i64)), (8, .h (.int .i64))], [.box [.h (.list (.int .u8)), .h (.int .i64), .h (.int .u64)], .box [.h (.list (.list (.int .i64))), .h (.list (.list (.int .i64)))], .mat (.int .i64), .buf (.int .i64)]⟩
def spec_l1Cur_algorithm.c11 : Cut := ⟨11, [(0, .p 0), (3, .p 1), (5, .ownm 2 (.int .i64)), (6, .h (.int .i64)), (7, .own 3 (.int .i64)), (8, .h (.int .i64)), (9, .h (.int .i64)), (10, .h (.int .i64))], [.box [.h (.list (.int .u8)), .h (.int .i64), .h (.int .u64)], .box [.h (.list (.list (.int .i64))), .h (.list (.list (.int .i64)))], .mat (.int .i64), .buf (.int .i64)]⟩
noncomputable def spec_l1Cur_algorithm.E (k : Nat) : Env :=
  ⟨tab, 112, spec_l1Cur_algorithm.ent, spec_l1Cur_algorithm.rs, [spec_l1Cur_pick.ent, spec_l1Cur_among.ent], ctOf [(2, mkF spec_l1Cur_pick.ts spec_l1Cur_pick.rs fun a => spec_l1Cur_pick.f a.1 a.2.1 a.2.2.1 a.2.2.2),
    (3, mkF spec_l1Cur_among.ts spec_l1Cur_among.rs fun a => spec_l1Cur_among.f a.1 a.2.1 a.2.2.1 a.2.2.2)], [spec_l1Cur_algorithm.c3, spec_l1Cur_algorithm.c7, spec_l1Cur_algorithm.c11], [.tmp 4]⟩
noncomputable def spec_l1Cur_algorithm.S3 : List Item := stk (bodyOf Tryz.f24) 3
noncomputable def spec_l1Cur_algorithm.m3 (x6 : Int) (x0_0 : List Int) (x0_1 : Int) (x0_2 : Int) (x3_0 : List (List Int)) (x3_1 : List (List Int)) (x5 : List (List Int)) : St := mkS spec_l1Cur_algorithm.c3 [.v (.int .i64) x6, .v (.list (.int .u8)) x0_0, .v (.int .i64) x0_1, .v (.int .u64) x0_2, .v (.list (.list (.int .i64))) x3_0, .v (.list (.list (.int .i64))) x3_1, .v (.list (.list (.int .i64))) x5]
noncomputable def spec_l1Cur_algorithm.S7 : List Item := stk (bodyOf Tryz.f24) 7
noncomputable def spec_l1Cur_algorithm.m7 (x6 : Int) (x8 : Int) (x0_0 : List Int) (x0_1 : Int) (x0_2 : Int) (x3_0 : List (List Int)) (x3_1 : List (List Int)) (x5 : List (List Int)) (x7 : List Int) : St := mkS spec_l1Cur_algorithm.c7 [.v (.int .i64) x6, .v (.int .i64) x8, .v (.list (.int .u8)) x0_0, .v (.int .i64) x0_1, .v (.int .u64) x0_2, .v (.list (.list (.int .i64))) x3_0, .v (.list (.list (.int .i64))) x3_1, .v (.list (.list (.int .i64))) x5, .v (.list (.int .i64)) x7]
noncomputable def spec_l1Cur_algorithm.S11 : List Item := stk (bodyOf Tryz.f24) 11
noncomputable def spec_l1Cur_algorithm.m11 (x6 : Int) (x8 : Int) (x9 : Int) (x10 : Int) (x0_0 : List Int) (x0_1 : Int) (x0_2 : Int) (x3_0 : List (List Int)) (x3_1 : List (List Int)) (x5 : List (List Int)) (x7 : List Int) : St := mkS spec_l1Cur_algorithm.c11 [.v (.int .i64) x6, .v (.int .i64) x8, .v (.int .i64) x9, .v (.int .i64) x10, .v (.list (.int .u8)) x0_0, .v (.int .i64) x0_1, .v (.int .u64) x0_2, .v (.list (.list (.int .i64))) x3_0, .v (.list (.list (.int .i64))) x3_1, .v (.list (.list (.int .i64))) x5, .v (.list (.int .i64)) x7]
theorem spec_l1Cur_algorithm.h3 (k : Nat) (R : List Item → St → Option (PD spec_l1Cur_algorithm.rs)) (x6 : Int) (x0_0 : List Int) (x0_1 : Int) (x0_2 : Int) (x3_0 : List (List Int)) (x3_1 : List (List Int)) (x5 : List (List Int)) : run (spec_l1Cur_algorithm.E k) R 4000 true spec_l1Cur_algorithm.S3 (spec_l1Cur_algorithm.m3 x6 x0_0 x0_1 x0_2 x3_0 x3_1 x5) = spec_l1Cur_algorithm.B3 k (fun x6 x0_0 x0_1 x0_2 x3_0 x3_1 x5 => R spec_l1Cur_algorithm.S3 (spec_l1Cur_algorithm.m3 x6 x0_0 x0_1 x0_2 x3_0 x3_1 x5)) (fun x6 x8 x0_0 x0_1 x0_2 x3_0 x3_1 x5 x7 => R spec_l1Cur_algorithm.S7 (spec_l1Cur_algorithm.m7 x6 x8 x0_0 x0_1 x0_2 x3_0 x3_1 x5 x7)) (fun x6 x8 x9 x10 x0_0 x0_1 x0_2 x3_0 x3_1 x5 x7 => R spec_l1Cur_algorithm.S11 (spec_l1Cur_algorithm.m11 x6 x8 x9 x10 x0_0 x0_1 x0_2 x3_0 x3_1 x5 x7)) x6 x0_0 x0_1 x0_2 x3_0 x3_1 x5 := by kernel_rfl
theorem spec_l1Cur_algorithm.h7 (k : Nat) (R : List Item → St → Option (PD spec_l1Cur_algorithm.rs)) (x6 : Int) (x8 : Int) (x0_0 : List Int) (x0_1 : Int) (x0_2 : Int) (x3_0 : List (List Int)) (x3_1 : List (List Int)) (x5 : List (List Int)) (x7 : List Int) : run (spec_l1Cur_algorithm.E k) R 4000 true spec_l1Cur_algorithm.S7 (spec_l1Cur_algorithm.m7 x6 x8 x0_0 x0_1 x0_2 x3_0 x3_1 x5 x7) = spec_l1Cur_algorithm.B7 k (fun x6 x0_0 x0_1 x0_2 x3_0 x3_1 x5 => R spec_l1Cur_algorithm.S3 (spec_l1Cur_algorithm.m3 x6 x0_0 x0_1 x0_2 x3_0 x3_1 x5)) (fun x6 x8 x0_0 x0_1 x0_2 x3_0 x3_1 x5 x7 => R spec_l1Cur_algorithm.S7 (spec_l1Cur_algorithm.m7 x6 x8 x0_0 x0_1 x0_2 x3_0 x3_1 x5 x7)) (fun x6 x8 x9 x10 x0_0 x0_1 x0_2 x3_0 x3_1 x5 x7 => R spec_l1Cur_algorithm.S11 (spec_l1Cur_algorithm.m11 x6 x8 x9 x10 x0_0 x0_1 x0_2 x3_0 x3_1 x5 x7)) x6 x8 x0_0 x0_1 x0_2 x3_0 x3_1 x5 x7 := by kernel_rfl
theorem spec_l1Cur_algorithm.h11 (k : Nat) (R : List Item → St → Option (PD spec_l1Cur_algorithm.rs)) (x6 : Int) (x8 : Int) (x9 : Int) (x10 : Int) (x0_0 : List Int) (x0_1 : Int) (x0_2 : Int) (x3_0 : List (List Int)) (x3_1 : List (List Int)) (x5 : List (List Int)) (x7 : List Int) : run (spec_l1Cur_algorithm.E k) R 4000 true spec_l1Cur_algorithm.S11 (spec_l1Cur_algorithm.m11 x6 x8 x9 x10 x0_0 x0_1 x0_2 x3_0 x3_1 x5 x7) = spec_l1Cur_algorithm.B11 k (fun x6 x0_0 x0_1 x0_2 x3_0 x3_1 x5 => R spec_l1Cur_algorithm.S3 (spec_l1Cur_algorithm.m3 x6 x0_0 x0_1 x0_2 x3_0 x3_1 x5)) (fun x6 x8 x0_0 x0_1 x0_2 x3_0 x3_1 x5 x7 => R spec_l1Cur_algorithm.S7 (spec_l1Cur_algorithm.m7 x6 x8 x0_0 x0_1 x0_2 x3_0 x3_1 x5 x7)) (fun x6 x8 x9 x10 x0_0 x0_1 x0_2 x3_0 x3_1 x5 x7 => R spec_l1Cur_algorithm.S11 (spec_l1Cur_algorithm.m11 x6 x8 x9 x10 x0_0 x0_1 x0_2 x3_0 x3_1 x5 x7)) x6 x8 x9 x10 x0_0 x0_1 x0_2 x3_0 x3_1 x5 x7 := by kernel_rfl
theorem spec_l1Cur_algorithm.h (k : Nat) (R : List Item → St → Option (PD spec_l1Cur_algorithm.rs)) (a0 : List (List Int)) (a1 : List (List Int)) (a2 : List Int) (a3 : Int) (a4 : Int) : run (spec_l1Cur_algorithm.E k) R 4000 true [.code (bodyOf Tryz.f24)] (stA (spec_l1Cur_algorithm.E k) [.v (.list (.list (.int .i64))) a0, .v (.list (.list (.int .i64))) a1, .v (.list (.int .u8)) a2, .v (.int .i64) a3, .v (.int .u64) a4]) = spec_l1Cur_algorithm.B k (fun x6 x0_0 x0_1 x0_2 x3_0 x3_1 x5 => R spec_l1Cur_algorithm.S3 (spec_l1Cur_algorithm.m3 x6 x0_0 x0_1 x0_2 x3_0 x3_1 x5)) (fun x6 x8 x0_0 x0_1 x0_2 x3_0 x3_1 x5 x7 => R spec_l1Cur_algorithm.S7 (spec_l1Cur_algorithm.m7 x6 x8 x0_0 x0_1 x0_2 x3_0 x3_1 x5 x7)) (fun x6 x8 x9 x10 x0_0 x0_1 x0_2 x3_0 x3_1 x5 x7 => R spec_l1Cur_algorithm.S11 (spec_l1Cur_algorithm.m11 x6 x8 x9 x10 x0_0 x0_1 x0_2 x3_0 x3_1 x5 x7)) a0 a1 a2 a3 a4 := by kernel_rfl
theorem spec_l1Cur_algorithm.eok (k : Nat) : EOk Tryz.prog (spec_l1Cur_algorithm.E k) Tryz.f24 :=
  ⟨Tryz.func24, Tryz.ntmps24, by kernel_rfl, tab_ok, mixed, cuts_of (by kernel_rfl), Tab.ok (.cons (spec_l1Cur_pick.ok) (by kernel_rfl) (.cons (spec_l1Cur_among.ok) (by kernel_rfl) .nil)), by kernel_rfl⟩
theorem spec_l1Cur_algorithm.ff (k : Nat) : ∀ n : Nat, ((fun x6 x0_0 x0_1 x0_2 x3_0 x3_1 x5 => FF (spec_l1Cur_algorithm.E k) n spec_l1Cur_algorithm.S3 (spec_l1Cur_algorithm.m3 x6 x0_0 x0_1 x0_2 x3_0 x3_1 x5)), (fun x6 x8 x0_0 x0_1 x0_2 x3_0 x3_1 x5 x7 => FF (spec_l1Cur_algorithm.E k) n spec_l1Cur_algorithm.S7 (spec_l1Cur_algorithm.m7 x6 x8 x0_0 x0_1 x0_2 x3_0 x3_1 x5 x7)), (fun x6 x8 x9 x10 x0_0 x0_1 x0_2 x3_0 x3_1 x5 x7 => FF (spec_l1Cur_algorithm.E k) n spec_l1Cur_algorithm.S11 (spec_l1Cur_algorithm.m11 x6 x8 x9 x10 x0_0 x0_1 x0_2 x3_0 x3_1 x5 x7))) = spec_l1Cur_algorithm.bs k n
  | 0 => rfl
  | n + 1 => by
    show ((fun x6 x0_0 x0_1 x0_2 x3_0 x3_1 x5 => FF (spec_l1Cur_algorithm.E k) (n + 1) spec_l1Cur_algorithm.S3 (spec_l1Cur_algorithm.m3 x6 x0_0 x0_1 x0_2 x3_0 x3_1 x5)), (fun x6 x8 x0_0 x0_1 x0_2 x3_0 x3_1 x5 x7 => FF (spec_l1Cur_algorithm.E k) (n + 1) spec_l1Cur_algorithm.S7 (spec_l1Cur_algorithm.m7 x6 x8 x0_0 x0_1 x0_2 x3_0 x3_1 x5 x7)), (fun x6 x8 x9 x10 x0_0 x0_1 x0_2 x3_0 x3_1 x5 x7 => FF (spec_l1Cur_algorithm.E k) (n + 1) spec_l1Cur_algorithm.S11 (spec_l1Cur_algorithm.m11 x6 x8 x9 x10 x0_0 x0_1 x0_2 x3_0 x3_1 x5 x7))) = (spec_l1Cur_algorithm.B3 k ((spec_l1Cur_algorithm.bs k n).1) ((spec_l1Cur_algorithm.bs k n).2.1) ((spec_l1Cur_algorithm.bs k n).2.2), spec_l1Cur_algorithm.B7 k ((spec_l1Cur_algorithm.bs k n).1) ((spec_l1Cur_algorithm.bs k n).2.1) ((spec_l1Cur_algorithm.bs k n).2.2), spec_l1Cur_algorithm.B11 k ((spec_l1Cur_algorithm.bs k n).1) ((spec_l1Cur_algorithm.bs k n).2.1) ((spec_l1Cur_algorithm.bs k n).2.2))
    rw [← spec_l1Cur_algorithm.ff k n]
    exact (Prod.ext (funext fun x6 => funext fun x0_0 => funext fun x0_1 => funext fun x0_2 => funext fun x3_0 => funext fun x3_1 => funext fun x5 => by dsimp only; exact (FF_succ ..).trans (spec_l1Cur_algorithm.h3 k (fun t s => FF (spec_l1Cur_algorithm.E k) n t s) x6 x0_0 x0_1 x0_2 x3_0 x3_1 x5)) (Prod.ext (funext fun x6 => funext fun x8 => funext fun x0_0 => funext fun x0_1 => funext fun x0_2 => funext fun x3_0 => funext fun x3_1 => funext fun x5 => funext fun x7 => by dsimp only; exact (FF_succ ..).trans (spec_l1Cur_algorithm.h7 k (fun t s => FF (spec_l1Cur_algorithm.E k) n t s) x6 x8 x0_0 x0_1 x0_2 x3_0 x3_1 x5 x7)) (funext fun x6 => funext fun x8 => funext fun x9 => funext fun x10 => funext fun x0_0 => funext fun x0_1 => funext fun x0_2 => funext fun x3_0 => funext fun x3_1 => funext fun x5 => funext fun x7 => by dsimp only; exact (FF_succ ..).trans (spec_l1Cur_algorithm.h11 k (fun t s => FF (spec_l1Cur_algorithm.E k) n t s) x6 x8 x9 x10 x0_0 x0_1 x0_2 x3_0 x3_1 x5 x7))))
theorem spec_l1Cur_algorithm.run (k : Nat) (a0 : List (List Int)) (a1 : List (List Int)) (a2 : List Int) (a3 : Int) (a4 : Int): FF (spec_l1Cur_algorithm.E k) (k + 1) [.code (bodyOf Tryz.f24)] (stA (spec_l1Cur_algorithm.E k) [.v (.list (.list (.int .i64))) a0, .v (.list (.list (.int .i64))) a1, .v (.list (.int .u8)) a2, .v (.int .i64) a3, .v (.int .u64) a4]) = spec_l1Cur_algorithm.f k a0 a1 a2 a3 a4 :=
  (FF_succ ..).trans ((spec_l1Cur_algorithm.h k (fun t s => FF (spec_l1Cur_algorithm.E k) k t s) a0 a1 a2 a3 a4).trans (by
    show _ = spec_l1Cur_algorithm.B k ((spec_l1Cur_algorithm.bs k k).1) ((spec_l1Cur_algorithm.bs k k).2.1) ((spec_l1Cur_algorithm.bs k k).2.2) a0 a1 a2 a3 a4
    rw [← spec_l1Cur_algorithm.ff k k]))
theorem spec_l1Cur_algorithm.ok (k : Nat) : FnOK Tryz.prog spec_l1Cur_algorithm.ent spec_l1Cur_algorithm.ts spec_l1Cur_algorithm.rs fun a => spec_l1Cur_algorithm.f k a.1 a.2.1 a.2.2.1 a.2.2.2.1 a.2.2.2.2 :=
  ⟨hasBody_of Tryz.func24 (by kernel_rfl), by kernel_rfl, by kernel_rfl, fun a r hr => good_of (E := (spec_l1Cur_algorithm.E k)) (k := (k + 1)) (xs := encL spec_l1Cur_algorithm.ts a) (spec_l1Cur_algorithm.eok k) (body := (bodyOf Tryz.f24)) (by kernel_rfl) (by kernel_rfl) ((spec_l1Cur_algorithm.run k a.1 a.2.1 a.2.2.1 a.2.2.2.1 a.2.2.2.2).trans hr)⟩

def spec_l1Cur_state8.B (a0 : List (List Int)) (a1 : List (List Int)) (a2 : List Int) (a3 : Int) (a4 : Int) : Option (Int × List Int × Int × Int) :=
  bif decide ((a0.length : Int) = (0 : Int)) then ((spec_l1Cur_among.f [(-1), (a0.length : Int)] a2 a3 a4).bind fun t1 => some (t1.1, t1.2.1, t1.2.2.1, t1.2.2.2)) else ((spec_l1Cur_one.f 20 a2 a3 a4).bind fun t2 => (bif t2.1 then ((spec_l1Cur_among.f [(-1), (a0.length : Int)] t2.2.1 t2.2.2.1 t2.2.2.2).bind fun t3 => some (t3.1, t3.2.1, t3.2.2.1, t3.2.2.2)) else ((spec_l1Cur_pick.f (a0.length : Int) t2.2.1 t2.2.2.1 t2.2.2.2).bind fun t4 => some (t4.1, t4.2.1, t4.2.2.1, t4.2.2.2))))
def spec_l1Cur_state8.f (a0 : List (List Int)) (a1 : List (List Int)) (a2 : List Int) (a3 : Int) (a4 : Int) : Option (Int × List Int × Int × Int) := spec_l1Cur_state8.B a0 a1 a2 a3 a4
def spec_l1Cur_state8.ent : Ent := ⟨25, [.p 0, .agg [.h (.list (.list (.int .i64))), .h (.list (.list (.int .i64)))]], [.box [.h (.list (.int .u8)), .h (.int .i64), .h (.int .u64)]], .h (.int .i64), [.box [.h (.list (.int .u8)), .h (.int .i64), .h (.int .u64)]], 58⟩
abbrev spec_l1Cur_state8.ts : List Ty := [.list (.list (.int .i64)), .list (.list (.int .i64)), .list (.int .u8), .int .i64, .int .u64]
abbrev spec_l1Cur_state8.rs : List Ty := [.int .i64, .list (.int .u8), .int .i64, .int .u64]
noncomputable def spec_l1Cur_state8.E : Env :=
  ⟨tab, 24, spec_l1Cur_state8.ent, spec_l1Cur_state8.rs, [spec_l1Cur_among.ent, spec_l1Cur_one.ent, spec_l1Cur_pick.ent], ctOf [(3, mkF spec_l1Cur_among.ts spec_l1Cur_among.rs fun a => spec_l1Cur_among.f a.1 a.2.1 a.2.2.1 a.2.2.2),
    (5, mkF spec_l1Cur_one.ts spec_l1Cur_one.rs fun a => spec_l1Cur_one.f a.1 a.2.1 a.2.2.1 a.2.2.2),
    (2, mkF spec_l1Cur_pick.ts spec_l1Cur_pick.rs fun a => spec_l1Cur_pick.f a.1 a.2.1 a.2.2.1 a.2.2.2)], [], [.tmp 4]⟩
theorem spec_l1Cur_state8.h (R : List Item → St → Option (PD spec_l1Cur_state8.rs)) (a0 : List (List Int)) (a1 : List (List Int)) (a2 : List Int) (a3 : Int) (a4 : Int) : run (spec_l1Cur_state8.E) R 4000 true [.code (bodyOf Tryz.f25)] (stA (spec_l1Cur_state8.E) [.v (.list (.list (.int .i64))) a0, .v (.list (.list (.int .i64))) a1, .v (.list (.int .u8)) a2, .v (.int .i64) a3, .v (.int .u64) a4]) = spec_l1Cur_state8.B a0 a1 a2 a3 a4 := by kernel_rfl
theorem spec_l1Cur_state8.eok : EOk Tryz.prog (spec_l1Cur_state8.E) Tryz.f25 :=
  ⟨Tryz.func25, Tryz.ntmps25, by kernel_rfl, tab_ok, mixed, cuts_of (by kernel_rfl), Tab.ok (.cons (spec_l1Cur_among.ok) (by kernel_rfl) (.cons (spec_l1Cur_one.ok) (by kernel_rfl) (.cons (spec_l1Cur_pick.ok) (by kernel_rfl) .nil))), by kernel_rfl⟩
theorem spec_l1Cur_state8.run (a0 : List (List Int)) (a1 : List (List Int)) (a2 : List Int) (a3 : Int) (a4 : Int): FF (spec_l1Cur_state8.E) 1 [.code (bodyOf Tryz.f25)] (stA (spec_l1Cur_state8.E) [.v (.list (.list (.int .i64))) a0, .v (.list (.list (.int .i64))) a1, .v (.list (.int .u8)) a2, .v (.int .i64) a3, .v (.int .u64) a4]) = spec_l1Cur_state8.f a0 a1 a2 a3 a4 :=
  (FF_succ ..).trans (spec_l1Cur_state8.h (fun t s => FF (spec_l1Cur_state8.E) 0 t s) a0 a1 a2 a3 a4)
theorem spec_l1Cur_state8.ok : FnOK Tryz.prog spec_l1Cur_state8.ent spec_l1Cur_state8.ts spec_l1Cur_state8.rs fun a => spec_l1Cur_state8.f a.1 a.2.1 a.2.2.1 a.2.2.2.1 a.2.2.2.2 :=
  ⟨hasBody_of Tryz.func25 (by kernel_rfl), by kernel_rfl, by kernel_rfl, fun a r hr => good_of (E := (spec_l1Cur_state8.E)) (k := 1) (xs := encL spec_l1Cur_state8.ts a) (spec_l1Cur_state8.eok) (body := (bodyOf Tryz.f25)) (by kernel_rfl) (by kernel_rfl) ((spec_l1Cur_state8.run a.1 a.2.1 a.2.2.1 a.2.2.2.1 a.2.2.2.2).trans hr)⟩

def spec_DrawExpectedCost.B (k : Nat) (a0 : List Int) : Option (List (List Int) × List (List Int) × List (List Int) × Int × List Int × List (List Int)) :=
  (spec_l1Cur_problem.f k a0 0 0).bind fun t1 => ((spec_l1Cur_algorithm.f k t1.2.2.2.2 t1.1 t1.2.1 t1.2.2.1 t1.2.2.2.1).bind fun t2 => ((spec_l1Cur_state8.f t1.2.2.2.2 t1.1 t2.2.1 t2.2.2.1 t2.2.2.2).bind fun t3 => ((spec_l1Cur_chances.f k t1.2.2.2.2 t1.1 t3.2.1 t3.2.2.1 t3.2.2.2).bind fun t4 => some (t1.2.2.2.2, t1.1, t2.1, t3.1, t4.2.2.2.1, t4.2.2.2.2))))
def spec_DrawExpectedCost.f (k : Nat) (a0 : List Int) : Option (List (List Int) × List (List Int) × List (List Int) × Int × List Int × List (List Int)) := spec_DrawExpectedCost.B k a0
def spec_DrawExpectedCost.ent : Ent := ⟨8, [.h (.list (.int .u8))], [], .tup [.agg [.h (.list (.list (.int .i64))), .h (.list (.list (.int .i64)))], .h (.list (.list (.int .i64))), .h (.int .i64), .agg [.own 0 (.int .i64), .own 1 (.list (.int .i64))]], [.buf (.int .i64), .buf (.list (.int .i64))], 59⟩
abbrev spec_DrawExpectedCost.ts : List Ty := [.list (.int .u8)]
abbrev spec_DrawExpectedCost.rs : List Ty := [.list (.list (.int .i64)), .list (.list (.int .i64)), .list (.list (.int .i64)), .int .i64, .list (.int .i64), .list (.list (.int .i64))]
noncomputable def spec_DrawExpectedCost.E (k : Nat) : Env :=
  ⟨tab, 23, spec_DrawExpectedCost.ent, spec_DrawExpectedCost.rs, [spec_l1Cur_problem.ent, spec_l1Cur_algorithm.ent, spec_l1Cur_state8.ent, spec_l1Cur_chances.ent], ctOf [(12, mkF spec_l1Cur_problem.ts spec_l1Cur_problem.rs fun a => spec_l1Cur_problem.f k a.1 a.2.1 a.2.2),
    (57, mkF spec_l1Cur_algorithm.ts spec_l1Cur_algorithm.rs fun a => spec_l1Cur_algorithm.f k a.1 a.2.1 a.2.2.1 a.2.2.2.1 a.2.2.2.2),
    (58, mkF spec_l1Cur_state8.ts spec_l1Cur_state8.rs fun a => spec_l1Cur_state8.f a.1 a.2.1 a.2.2.1 a.2.2.2.1 a.2.2.2.2),
    (16, mkF spec_l1Cur_chances.ts spec_l1Cur_chances.rs fun a => spec_l1Cur_chances.f k a.1 a.2.1 a.2.2.1 a.2.2.2.1 a.2.2.2.2)], [], [.cell 2 26, .tmp 3, .tmp 4, .cell 5 29]⟩
theorem spec_DrawExpectedCost.h (k : Nat) (R : List Item → St → Option (PD spec_DrawExpectedCost.rs)) (a0 : List Int) : run (spec_DrawExpectedCost.E k) R 4000 true [.code (bodyOf Tryz.f8)] (stA (spec_DrawExpectedCost.E k) [.v (.list (.int .u8)) a0]) = spec_DrawExpectedCost.B k a0 := by kernel_rfl
theorem spec_DrawExpectedCost.eok (k : Nat) : EOk Tryz.prog (spec_DrawExpectedCost.E k) Tryz.f8 :=
  ⟨Tryz.func8, Tryz.ntmps8, by kernel_rfl, tab_ok, mixed, cuts_of (by kernel_rfl), Tab.ok (.cons (spec_l1Cur_problem.ok k) (by kernel_rfl) (.cons (spec_l1Cur_algorithm.ok k) (by kernel_rfl) (.cons (spec_l1Cur_state8.ok) (by kernel_rfl) (.cons (spec_l1Cur_chances.ok k) (by kernel_rfl) .nil)))), by kernel_rfl⟩
theorem spec_DrawExpectedCost.run (k : Nat) (a0 : List Int): FF (spec_DrawExpectedCost.E k) 1 [.code (bodyOf Tryz.f8)] (stA (spec_DrawExpectedCost.E k) [.v (.list (.int .u8)) a0]) = spec_DrawExpectedCost.f k a0 :=
  (FF_succ ..).trans (spec_DrawExpectedCost.h k (fun t s => FF (spec_DrawExpectedCost.E k) 0 t s) a0)
theorem spec_DrawExpectedCost.ok (k : Nat) : FnOK Tryz.prog spec_DrawExpectedCost.ent spec_DrawExpectedCost.ts spec_DrawExpectedCost.rs fun a => spec_DrawExpectedCost.f k a :=
  ⟨hasBody_of Tryz.func8 (by kernel_rfl), by kernel_rfl, by kernel_rfl, fun a r hr => good_of (E := (spec_DrawExpectedCost.E k)) (k := 1) (xs := encL spec_DrawExpectedCost.ts a) (spec_DrawExpectedCost.eok k) (body := (bodyOf Tryz.f8)) (by kernel_rfl) (by kernel_rfl) ((spec_DrawExpectedCost.run k a).trans hr)⟩

def impl_Problem_isState.B (a0 : List (List Int)) (a1 : List (List Int)) (a2 : Int) : Option (Bool) :=
  (impl_within.f a2 0 (w64 ((a0.length : Int) - 1))).bind fun t1 => some t1
def impl_Problem_isState.f (a0 : List (List Int)) (a1 : List (List Int)) (a2 : Int) : Option (Bool) := impl_Problem_isState.B a0 a1 a2
def impl_Problem_isState.ent : Ent := ⟨102, [.agg [.h (.list (.list (.int .i64))), .h (.list (.list (.int .i64)))], .h (.int .i64)], [], .h (.bool), [], 60⟩
abbrev impl_Problem_isState.ts : List Ty := [.list (.list (.int .i64)), .list (.list (.int .i64)), .int .i64]
abbrev impl_Problem_isState.rs : List Ty := [.bool]
noncomputable def impl_Problem_isState.E : Env :=
  ⟨tab, 11, impl_Problem_isState.ent, impl_Problem_isState.rs, [impl_within.ent], ctOf [(18, mkF impl_within.ts impl_within.rs fun a => impl_within.f a.1 a.2.1 a.2.2)], [], [.tmp 4]⟩
theorem impl_Problem_isState.h (R : List Item → St → Option (PD impl_Problem_isState.rs)) (a0 : List (List Int)) (a1 : List (List Int)) (a2 : Int) : run (impl_Problem_isState.E) R 4000 true [.code (bodyOf Tryz.f102)] (stA (impl_Problem_isState.E) [.v (.list (.list (.int .i64))) a0, .v (.list (.list (.int .i64))) a1, .v (.int .i64) a2]) = impl_Problem_isState.B a0 a1 a2 := by kernel_rfl
theorem impl_Problem_isState.eok : EOk Tryz.prog (impl_Problem_isState.E) Tryz.f102 :=
  ⟨Tryz.func102, Tryz.ntmps102, by kernel_rfl, tab_ok, mixed, cuts_of (by kernel_rfl), Tab.ok (.cons (impl_within.ok) (by kernel_rfl) .nil), by kernel_rfl⟩
theorem impl_Problem_isState.run (a0 : List (List Int)) (a1 : List (List Int)) (a2 : Int): FF (impl_Problem_isState.E) 1 [.code (bodyOf Tryz.f102)] (stA (impl_Problem_isState.E) [.v (.list (.list (.int .i64))) a0, .v (.list (.list (.int .i64))) a1, .v (.int .i64) a2]) = impl_Problem_isState.f a0 a1 a2 :=
  (FF_succ ..).trans (impl_Problem_isState.h (fun t s => FF (impl_Problem_isState.E) 0 t s) a0 a1 a2)
theorem impl_Problem_isState.ok : FnOK Tryz.prog impl_Problem_isState.ent impl_Problem_isState.ts impl_Problem_isState.rs fun a => impl_Problem_isState.f a.1 a.2.1 a.2.2 :=
  ⟨hasBody_of Tryz.func102 (by kernel_rfl), by kernel_rfl, by kernel_rfl, fun a r hr => good_of (E := (impl_Problem_isState.E)) (k := 1) (xs := encL impl_Problem_isState.ts a) (impl_Problem_isState.eok) (body := (bodyOf Tryz.f102)) (by kernel_rfl) (by kernel_rfl) ((impl_Problem_isState.run a.1 a.2.1 a.2.2).trans hr)⟩

def impl_isStarted.B (k : Nat) (a0 : List (List Int)) (a1 : List (List Int)) (a2 : Int) (a3 : List Int) : Option (Bool) :=
  (impl_IsProblem.f k a0 a1).bind fun t1 => (bif t1 then ((impl_Problem_isState.f a0 a1 a2).bind fun t2 => (bif t2 then ((impl_Problem_isSequence.f k a0 a1 a3).bind fun t3 => some t3) else some false)) else some false)
def impl_isStarted.f (k : Nat) (a0 : List (List Int)) (a1 : List (List Int)) (a2 : Int) (a3 : List Int) : Option (Bool) := impl_isStarted.B k a0 a1 a2 a3
def impl_isStarted.ent : Ent := ⟨71, [.agg [.h (.list (.list (.int .i64))), .h (.list (.list (.int .i64)))], .h (.int .i64), .h (.list (.int .i64))], [], .h (.bool), [], 61⟩
abbrev impl_isStarted.ts : List Ty := [.list (.list (.int .i64)), .list (.list (.int .i64)), .int .i64, .list (.int .i64)]
abbrev impl_isStarted.rs : List Ty := [.bool]
noncomputable def impl_isStarted.E (k : Nat) : Env :=
  ⟨tab, 19, impl_isStarted.ent, impl_isStarted.rs, [impl_IsProblem.ent, impl_Problem_isState.ent, impl_Problem_isSequence.ent], ctOf [(33, mkF impl_IsProblem.ts impl_IsProblem.rs fun a => impl_IsProblem.f k a.1 a.2),
    (60, mkF impl_Problem_isState.ts impl_Problem_isState.rs fun a => impl_Problem_isState.f a.1 a.2.1 a.2.2),
    (42, mkF impl_Problem_isSequence.ts impl_Problem_isSequence.rs fun a => impl_Problem_isSequence.f k a.1 a.2.1 a.2.2)], [], [.tmp 6]⟩
theorem impl_isStarted.h (k : Nat) (R : List Item → St → Option (PD impl_isStarted.rs)) (a0 : List (List Int)) (a1 : List (List Int)) (a2 : Int) (a3 : List Int) : run (impl_isStarted.E k) R 4000 true [.code (bodyOf Tryz.f71)] (stA (impl_isStarted.E k) [.v (.list (.list (.int .i64))) a0, .v (.list (.list (.int .i64))) a1, .v (.int .i64) a2, .v (.list (.int .i64)) a3]) = impl_isStarted.B k a0 a1 a2 a3 := by kernel_rfl
theorem impl_isStarted.eok (k : Nat) : EOk Tryz.prog (impl_isStarted.E k) Tryz.f71 :=
  ⟨Tryz.func71, Tryz.ntmps71, by kernel_rfl, tab_ok, mixed, cuts_of (by kernel_rfl), Tab.ok (.cons (impl_IsProblem.ok k) (by kernel_rfl) (.cons (impl_Problem_isState.ok) (by kernel_rfl) (.cons (impl_Problem_isSequence.ok k) (by kernel_rfl) .nil))), by kernel_rfl⟩
theorem impl_isStarted.run (k : Nat) (a0 : List (List Int)) (a1 : List (List Int)) (a2 : Int) (a3 : List Int): FF (impl_isStarted.E k) 1 [.code (bodyOf Tryz.f71)] (stA (impl_isStarted.E k) [.v (.list (.list (.int .i64))) a0, .v (.list (.list (.int .i64))) a1, .v (.int .i64) a2, .v (.list (.int .i64)) a3]) = impl_isStarted.f k a0 a1 a2 a3 :=
  (FF_succ ..).trans (impl_isStarted.h k (fun t s => FF (impl_isStarted.E k) 0 t s) a0 a1 a2 a3)
theorem impl_isStarted.ok (k : Nat) : FnOK Tryz.prog impl_isStarted.ent impl_isStarted.ts impl_isStarted.rs fun a => impl_isStarted.f k a.1 a.2.1 a.2.2.1 a.2.2.2 :=
  ⟨hasBody_of Tryz.func71 (by kernel_rfl), by kernel_rfl, by kernel_rfl, fun a r hr => good_of (E := (impl_isStarted.E k)) (k := 1) (xs := encL impl_isStarted.ts a) (impl_isStarted.eok k) (body := (bodyOf Tryz.f71)) (by kernel_rfl) (by kernel_rfl) ((impl_isStarted.run k a.1 a.2.1 a.2.2.1 a.2.2.2).trans hr)⟩

def impl_isDrawn.B (k : Nat) (a0 : List (List Int)) (a1 : List (List Int)) (a2 : Int) (a3 : List Int) (a4 : List (List Int)) : Option (Bool) :=
  (impl_isStarted.f k a0 a1 a2 []).bind fun t1 => (bif t1 then ((impl_Problem_isChances.f k a0 a1 a3 a4).bind fun t2 => some t2) else some false)
def impl_isDrawn.f (k : Nat) (a0 : List (List Int)) (a1 : List (List Int)) (a2 : Int) (a3 : List Int) (a4 : List (List Int)) : Option (Bool) := impl_isDrawn.B k a0 a1 a2 a3 a4
def impl_isDrawn.ent : Ent := ⟨26, [.agg [.h (.list (.list (.int .i64))), .h (.list (.list (.int .i64)))], .h (.int .i64), .agg [.h (.list (.int .i64)), .h (.list (.list (.int .i64)))]], [], .h (.bool), [], 62⟩
abbrev impl_isDrawn.ts : List Ty := [.list (.list (.int .i64)), .list (.list (.int .i64)), .int .i64, .list (.int .i64), .list (.list (.int .i64))]
abbrev impl_isDrawn.rs : List Ty := [.bool]
noncomputable def impl_isDrawn.E (k : Nat) : Env :=
  ⟨tab, 15, impl_isDrawn.ent, impl_isDrawn.rs, [impl_isStarted.ent, impl_Problem_isChances.ent], ctOf [(61, mkF impl_isStarted.ts impl_isStarted.rs fun a => impl_isStarted.f k a.1 a.2.1 a.2.2.1 a.2.2.2),
    (46, mkF impl_Problem_isChances.ts impl_Problem_isChances.rs fun a => impl_Problem_isChances.f k a.1 a.2.1 a.2.2.1 a.2.2.2)], [], [.tmp 6]⟩
theorem impl_isDrawn.h (k : Nat) (R : List Item → St → Option (PD impl_isDrawn.rs)) (a0 : List (List Int)) (a1 : List (List Int)) (a2 : Int) (a3 : List Int) (a4 : List (List Int)) : run (impl_isDrawn.E k) R 4000 true [.code (bodyOf Tryz.f26)] (stA (impl_isDrawn.E k) [.v (.list (.list (.int .i64))) a0, .v (.list (.list (.int .i64))) a1, .v (.int .i64) a2, .v (.list (.int .i64)) a3, .v (.list (.list (.int .i64))) a4]) = impl_isDrawn.B k a0 a1 a2 a3 a4 := by kernel_rfl
theorem impl_isDrawn.eok (k : Nat) : EOk Tryz.prog (impl_isDrawn.E k) Tryz.f26 :=
  ⟨Tryz.func26, Tryz.ntmps26, by kernel_rfl, tab_ok, mixed, cuts_of (by kernel_rfl), Tab.ok (.cons (impl_isStarted.ok k) (by kernel_rfl) (.cons (impl_Problem_isChances.ok k) (by kernel_rfl) .nil)), by kernel_rfl⟩
theorem impl_isDrawn.run (k : Nat) (a0 : List (List Int)) (a1 : List (List Int)) (a2 : Int) (a3 : List Int) (a4 : List (List Int)): FF (impl_isDrawn.E k) 1 [.code (bodyOf Tryz.f26)] (stA (impl_isDrawn.E k) [.v (.list (.list (.int .i64))) a0, .v (.list (.list (.int .i64))) a1, .v (.int .i64) a2, .v (.list (.int .i64)) a3, .v (.list (.list (.int .i64))) a4]) = impl_isDrawn.f k a0 a1 a2 a3 a4 :=
  (FF_succ ..).trans (impl_isDrawn.h k (fun t s => FF (impl_isDrawn.E k) 0 t s) a0 a1 a2 a3 a4)
theorem impl_isDrawn.ok (k : Nat) : FnOK Tryz.prog impl_isDrawn.ent impl_isDrawn.ts impl_isDrawn.rs fun a => impl_isDrawn.f k a.1 a.2.1 a.2.2.1 a.2.2.2.1 a.2.2.2.2 :=
  ⟨hasBody_of Tryz.func26 (by kernel_rfl), by kernel_rfl, by kernel_rfl, fun a r hr => good_of (E := (impl_isDrawn.E k)) (k := 1) (xs := encL impl_isDrawn.ts a) (impl_isDrawn.eok k) (body := (bodyOf Tryz.f26)) (by kernel_rfl) (by kernel_rfl) ((impl_isDrawn.run k a.1 a.2.1 a.2.2.1 a.2.2.2.1 a.2.2.2.2).trans hr)⟩

def impl_Problem_areServed.B4 (k : Nat) (r4 : List Int → Int → Int → List (List Int) → List (List Int) → Option (Bool)) (x13 : List Int) (x14 : Int) (x15 : Int) (x2_0 : List (List Int)) (x2_1 : List (List Int)) : Option (Bool) :=
  bif decide (x15 < x14) then (if (0 : Int) ≤ x15 ∧ x15 < (x13.length : Int) then ((impl_Problem_isState.f x2_0 x2_1 (x13.getD x15.toNat 0)).bind fun t1 => (bif !t1 then some false else (if (0 : Int) ≤ x15 ∧ x15 < (x2_1.length : Int) then (if (0 : Int) ≤ x13.getD x15.toNat 0 ∧ x13.getD x15.toNat 0 < ((x2_1.getD x15.toNat []).length : Int) then (bif decide ((x2_1.getD x15.toNat []).getD (x13.getD x15.toNat 0).toNat 0 < (0 : Int)) then some false else (r4 x13 x14 (w64 (x15 + 1)) x2_0 x2_1)) else none) else none))) else none) else some true
def impl_Problem_areServed.B (k : Nat) (r4 : List Int → Int → Int → List (List Int) → List (List Int) → Option (Bool)) (a0 : List (List Int)) (a1 : List (List Int)) (a2 : List Int) : Option (Bool) :=
  bif !decide ((a2.length : Int) = (a1.length : Int)) then some false else (r4 a2 (a2.length : Int) 0 a0 a1)
def impl_Problem_areServed.bs (k : Nat) : Nat → (List Int → Int → Int → List (List Int) → List (List Int) → Option (Bool))
  | 0 => (fun _ _ _ _ _ => none)
  | n + 1 => (impl_Problem_areServed.B4 k ((impl_Problem_areServed.bs k n)))
def impl_Problem_areServed.f (k : Nat) (a0 : List (List Int)) (a1 : List (List Int)) (a2 : List Int) : Option (Bool) := impl_Problem_areServed.B k ((impl_Problem_areServed.bs k k)) a0 a1 a2
def impl_Problem_areServed.ent : Ent := ⟨73, [.agg [.h (.list (.list (.int .i64))), .h (.list (.list (.int .i64)))], .h (.list (.int .i64))], [], .h (.bool), [], 63⟩
abbrev impl_Problem_areServed.ts : List Ty := [.list (.list (.int .i64)), .list (.list (.int .i64)), .list (.int .i64)]
abbrev impl_Problem_areServed.rs : List Ty := [.bool]
def impl_Problem_areServed.c4 : Cut := ⟨4, [(2, .p 0), (13, .h (.list (.int .i64))), (14, .h (.int .i64)), (15, .h (.int .i64))], [.box [.h (.list (.list (.int .i64))), .h (.list (.list (.int .i64)))]]⟩
noncomputable def impl_Problem_areServed.E (k : Nat) : Env :=
  ⟨tab, 36, impl_Problem_areServed.ent, impl_Problem_areServed.rs, [impl_Problem_isState.ent], ctOf [(60, mkF impl_Problem_isState.ts impl_Problem_isState.rs fun a => impl_Problem_isState.f a.1 a.2.1 a.2.2)], [impl_Problem_areServed.c4], [.tmp 4]⟩
noncomputable def impl_Problem_areServed.S4 : List Item := stk (bodyOf Tryz.f73) 4
noncomputable def impl_Problem_areServed.m4 (x13 : List Int) (x14 : Int) (x15 : Int) (x2_0 : List (List Int)) (x2_1 : List (List Int)) : St := mkS impl_Problem_areServed.c4 [.v (.list (.int .i64)) x13, .v (.int .i64) x14, .v (.int .i64) x15, .v (.list (.list (.int .i64))) x2_0, .v (.list (.list (.int .i64))) x2_1]
theorem impl_Problem_areServed.h4 (k : Nat) (R : List Item → St → Option (PD impl_Problem_areServed.rs)) (x13 : List Int) (x14 : Int) (x15 : Int) (x2_0 : List (List Int)) (x2_1 : List (List Int)) : run (impl_Problem_areServed.E k) R 4000 true impl_Problem_areServed.S4 (impl_Problem_areServed.m4 x13 x14 x15 x2_0 x2_1) = impl_Problem_areServed.B4 k (fun x13 x14 x15 x2_0 x2_1 => R impl_Problem_areServed.S4 (impl_Problem_areServed.m4 x13 x14 x15 x2_0 x2_1)) x13 x14 x15 x2_0 x2_1 := by kernel_rfl
theorem impl_Problem_areServed.h (k : Nat) (R : List Item → St → Option (PD impl_Problem_areServed.rs)) (a0 : List (List Int)) (a1 : List (List Int)) (a2 : List Int) : run (impl_Problem_areServed.E k) R 4000 true [.code (bodyOf Tryz.f73)] (stA (impl_Problem_areServed.E k) [.v (.list (.list (.int .i64))) a0, .v (.list (.list (.int .i64))) a1, .v (.list (.int .i64)) a2]) = impl_Problem_areServed.B k (fun x13 x14 x15 x2_0 x2_1 => R impl_Problem_areServed.S4 (impl_Problem_areServed.m4 x13 x14 x15 x2_0 x2_1)) a0 a1 a2 := by kernel_rfl
theorem impl_Problem_areServed.eok (k : Nat) : EOk Tryz.prog (impl_Problem_areServed.E k) Tryz.f73 :=
  ⟨Tryz.func73, Tryz.ntmps73, by kernel_rfl, tab_ok, mixed, cuts_of (by kernel_rfl), Tab.ok (.cons (impl_Problem_isState.ok) (by kernel_rfl) .nil), by kernel_rfl⟩
theorem impl_Problem_areServed.ff (k : Nat) : ∀ n : Nat, (fun x13 x14 x15 x2_0 x2_1 => FF (impl_Problem_areServed.E k) n impl_Problem_areServed.S4 (impl_Problem_areServed.m4 x13 x14 x15 x2_0 x2_1)) = impl_Problem_areServed.bs k n
  | 0 => rfl
  | n + 1 => by
    show (fun x13 x14 x15 x2_0 x2_1 => FF (impl_Problem_areServed.E k) (n + 1) impl_Problem_areServed.S4 (impl_Problem_areServed.m4 x13 x14 x15 x2_0 x2_1)) = (impl_Problem_areServed.B4 k ((impl_Problem_areServed.bs k n)))
    rw [← impl_Problem_areServed.ff k n]
    exact (funext fun x13 => funext fun x14 => funext fun x15 => funext fun x2_0 => funext fun x2_1 => (FF_succ ..).trans (impl_Problem_areServed.h4 k (fun t s => FF (impl_Problem_areServed.E k) n t s) x13 x14 x15 x2_0 x2_1))
theorem impl_Problem_areServed.run (k : Nat) (a0 : List (List Int)) (a1 : List (List Int)) (a2 : List Int): FF (impl_Problem_areServed.E k) (k + 1) [.code (bodyOf Tryz.f73)] (stA (impl_Problem_areServed.E k) [.v (.list (.list (.int .i64))) a0, .v (.list (.list (.int .i64))) a1, .v (.list (.int .i64)) a2]) = impl_Problem_areServed.f k a0 a1 a2 :=
  (FF_succ ..).trans ((impl_Problem_areServed.h k (fun t s => FF (impl_Problem_areServed.E k) k t s) a0 a1 a2).trans (by
    show _ = impl_Problem_areServed.B k ((impl_Problem_areServed.bs k k)) a0 a1 a2
    rw [← impl_Problem_areServed.ff k k]))
theorem impl_Problem_areServed.ok (k : Nat) : FnOK Tryz.prog impl_Problem_areServed.ent impl_Problem_areServed.ts impl_Problem_areServed.rs fun a => impl_Problem_areServed.f k a.1 a.2.1 a.2.2 :=
  ⟨hasBody_of Tryz.func73 (by kernel_rfl), by kernel_rfl, by kernel_rfl, fun a r hr => good_of (E := (impl_Problem_areServed.E k)) (k := (k + 1)) (xs := encL impl_Problem_areServed.ts a) (impl_Problem_areServed.eok k) (body := (bodyOf Tryz.f73)) (by kernel_rfl) (by kernel_rfl) ((impl_Problem_areServed.run k a.1 a.2.1 a.2.2).trans hr)⟩

def impl_Problem_isAlgorithm_1.B (k : Nat) (a0 : List Int) (a1 : List (List Int)) (a2 : List (List Int)) : Option (Bool) :=
  (impl_Problem_areServed.f k a1 a2 a0).bind fun t1 => some (!t1)
def impl_Problem_isAlgorithm_1.f (k : Nat) (a0 : List Int) (a1 : List (List Int)) (a2 : List (List Int)) : Option (Bool) := impl_Problem_isAlgorithm_1.B k a0 a1 a2
def impl_Problem_isAlgorithm_1.ent : Ent := ⟨72, [.h (.list (.int .i64)), .rp [.h (.list (.list (.int .i64))), .h (.list (.list (.int .i64)))]], [], .h (.bool), [], 64⟩
abbrev impl_Problem_isAlgorithm_1.ts : List Ty := [.list (.int .i64), .list (.list (.int .i64)), .list (.list (.int .i64))]
abbrev impl_Problem_isAlgorithm_1.rs : List Ty := [.bool]
noncomputable def impl_Problem_isAlgorithm_1.E (k : Nat) : Env :=
  ⟨tab, 8, impl_Problem_isAlgorithm_1.ent, impl_Problem_isAlgorithm_1.rs, [impl_Problem_areServed.ent], ctOf [(63, mkF impl_Problem_areServed.ts impl_Problem_areServed.rs fun a => impl_Problem_areServed.f k a.1 a.2.1 a.2.2)], [], [.tmp 3]⟩
theorem impl_Problem_isAlgorithm_1.h (k : Nat) (R : List Item → St → Option (PD impl_Problem_isAlgorithm_1.rs)) (a0 : List Int) (a1 : List (List Int)) (a2 : List (List Int)) : run (impl_Problem_isAlgorithm_1.E k) R 4000 true [.code (bodyOf Tryz.f72)] (stA (impl_Problem_isAlgorithm_1.E k) [.v (.list (.int .i64)) a0, .v (.list (.list (.int .i64))) a1, .v (.list (.list (.int .i64))) a2]) = impl_Problem_isAlgorithm_1.B k a0 a1 a2 := by kernel_rfl
theorem impl_Problem_isAlgorithm_1.eok (k : Nat) : EOk Tryz.prog (impl_Problem_isAlgorithm_1.E k) Tryz.f72 :=
  ⟨Tryz.func72, Tryz.ntmps72, by kernel_rfl, tab_ok, mixed, cuts_of (by kernel_rfl), Tab.ok (.cons (impl_Problem_areServed.ok k) (by kernel_rfl) .nil), by kernel_rfl⟩
theorem impl_Problem_isAlgorithm_1.run (k : Nat) (a0 : List Int) (a1 : List (List Int)) (a2 : List (List Int)): FF (impl_Problem_isAlgorithm_1.E k) 1 [.code (bodyOf Tryz.f72)] (stA (impl_Problem_isAlgorithm_1.E k) [.v (.list (.int .i64)) a0, .v (.list (.list (.int .i64))) a1, .v (.list (.list (.int .i64))) a2]) = impl_Problem_isAlgorithm_1.f k a0 a1 a2 :=
  (FF_succ ..).trans (impl_Problem_isAlgorithm_1.h k (fun t s => FF (impl_Problem_isAlgorithm_1.E k) 0 t s) a0 a1 a2)
theorem impl_Problem_isAlgorithm_1.ok (k : Nat) : FnOK Tryz.prog impl_Problem_isAlgorithm_1.ent impl_Problem_isAlgorithm_1.ts impl_Problem_isAlgorithm_1.rs fun a => impl_Problem_isAlgorithm_1.f k a.1 a.2.1 a.2.2 :=
  ⟨hasBody_of Tryz.func72 (by kernel_rfl), by kernel_rfl, by kernel_rfl, fun a r hr => good_of (E := (impl_Problem_isAlgorithm_1.E k)) (k := 1) (xs := encL impl_Problem_isAlgorithm_1.ts a) (impl_Problem_isAlgorithm_1.eok k) (body := (bodyOf Tryz.f72)) (by kernel_rfl) (by kernel_rfl) ((impl_Problem_isAlgorithm_1.run k a.1 a.2.1 a.2.2).trans hr)⟩

def slices_IndexFunc_at_Problem_isAlgorithm_1.B2 (k : Nat) (r2 : List (List Int) → List (List Int) → List (List Int) → Int → Int → Option (Int)) (x0 : List (List Int)) (x1_0_0 : List (List Int)) (x1_0_1 : List (List Int)) (x7 : Int) (x8 : Int) : Option (Int) :=
  bif decide (x8 < x7) then (if (0 : Int) ≤ x8 ∧ x8 < (x0.length : Int) then ((impl_Problem_isAlgorithm_1.f k (x0.getD x8.toNat []) x1_0_0 x1_0_1).bind fun t1 => (bif t1 then some x8 else (r2 x0 x1_0_0 x1_0_1 x7 (w64 (x8 + 1))))) else none) else some (-1)
def slices_IndexFunc_at_Problem_isAlgorithm_1.B (k : Nat) (r2 : List (List Int) → List (List Int) → List (List Int) → Int → Int → Option (Int)) (a0 : List (List Int)) (a1 : List (List Int)) (a2 : List (List Int)) : Option (Int) :=
  r2 a0 a1 a2 (a0.length : Int) 0
def slices_IndexFunc_at_Problem_isAlgorithm_1.bs (k : Nat) : Nat → (List (List Int) → List (List Int) → List (List Int) → Int → Int → Option (Int))
  | 0 => (fun _ _ _ _ _ => none)
  | n + 1 => (slices_IndexFunc_at_Problem_isAlgorithm_1.B2 k ((slices_IndexFunc_at_Problem_isAlgorithm_1.bs k n)))
def slices_IndexFunc_at_Problem_isAlgorithm_1.f (k : Nat) (a0 : List (List Int)) (a1 : List (List Int)) (a2 : List (List Int)) : Option (Int) := slices_IndexFunc_at_Problem_isAlgorithm_1.B k ((slices_IndexFunc_at_Problem_isAlgorithm_1.bs k k)) a0 a1 a2
def slices_IndexFunc_at_Problem_isAlgorithm_1.ent : Ent := ⟨96, [.h (.list (.list (.int .i64))), .fn 72 [] [.rp [.h (.list (.list (.int .i64))), .h (.list (.list (.int .i64)))]]], [], .h (.int .i64), [], 65⟩
abbrev slices_IndexFunc_at_Problem_isAlgorithm_1.ts : List Ty := [.list (.list (.int .i64)), .list (.list (.int .i64)), .list (.list (.int .i64))]
abbrev slices_IndexFunc_at_Problem_isAlgorithm_1.rs : List Ty := [.int .i64]
def slices_IndexFunc_at_Problem_isAlgorithm_1.c2 : Cut := ⟨2, [(0, .h (.list (.list (.int .i64)))), (1, .fn 72 [] [.rp [.h (.list (.list (.int .i64))), .h (.list (.list (.int .i64)))]]), (7, .h (.int .i64)), (8, .h (.int .i64))], []⟩
noncomputable def slices_IndexFunc_at_Problem_isAlgorithm_1.E (k : Nat) : Env :=
  ⟨tab, 19, slices_IndexFunc_at_Problem_isAlgorithm_1.ent, slices_IndexFunc_at_Problem_isAlgorithm_1.rs, [impl_Problem_isAlgorithm_1.ent], ctOf [(64, mkF impl_Problem_isAlgorithm_1.ts impl_Problem_isAlgorithm_1.rs fun a => impl_Problem_isAlgorithm_1.f k a.1 a.2.1 a.2.2)], [slices_IndexFunc_at_Problem_isAlgorithm_1.c2], [.tmp 4]⟩
noncomputable def slices_IndexFunc_at_Problem_isAlgorithm_1.S2 : List Item := stk (bodyOf Tryz.f96) 2
noncomputable def slices_IndexFunc_at_Problem_isAlgorithm_1.m2 (x0 : List (List Int)) (x1_0_0 : List (List Int)) (x1_0_1 : List (List Int)) (x7 : Int) (x8 : Int) : St := mkS slices_IndexFunc_at_Problem_isAlgorithm_1.c2 [.v (.list (.list (.int .i64))) x0, .v (.list (.list (.int .i64))) x1_0_0, .v (.list (.list (.int .i64))) x1_0_1, .v (.int .i64) x7, .v (.int .i64) x8]
theorem slices_IndexFunc_at_Problem_isAlgorithm_1.h2 (k : Nat) (R : List Item → St → Option (PD slices_IndexFunc_at_Problem_isAlgorithm_1.rs)) (x0 : List (List Int)) (x1_0_0 : List (List Int)) (x1_0_1 : List (List Int)) (x7 : Int) (x8 : Int) : run (slices_IndexFunc_at_Problem_isAlgorithm_1.E k) R 4000 true slices_IndexFunc_at_Problem_isAlgorithm_1.S2 (slices_IndexFunc_at_Problem_isAlgorithm_1.m2 x0 x1_0_0 x1_0_1 x7 x8) = slices_IndexFunc_at_Problem_isAlgorithm_1.B2 k (fun x0 x1_0_0 x1_0_1 x7 x8 => R slices_IndexFunc_at_Problem_isAlgorithm_1.S2 (slices_IndexFunc_at_Problem_isAlgorithm_1.m2 x0 x1_0_0 x1_0_1 x7 x8)) x0 x1_0_0 x1_0_1 x7 x8 := by kernel_rfl
theorem slices_IndexFunc_at_Problem_isAlgorithm_1.h (k : Nat) (R : List Item → St → Option (PD slices_IndexFunc_at_Problem_isAlgorithm_1.rs)) (a0 : List (List Int)) (a1 : List (List Int)) (a2 : List (List Int)) : run (slices_IndexFunc_at_Problem_isAlgorithm_1.E k) R 4000 true [.code (bodyOf Tryz.f96)] (stA (slices_IndexFunc_at_Problem_isAlgorithm_1.E k) [.v (.list (.list (.int .i64))) a0, .v (.list (.list (.int .i64))) a1, .v (.list (.list (.int .i64))) a2]) = slices_IndexFunc_at_Problem_isAlgorithm_1.B k (fun x0 x1_0_0 x1_0_1 x7 x8 => R slices_IndexFunc_at_Problem_isAlgorithm_1.S2 (slices_IndexFunc_at_Problem_isAlgorithm_1.m2 x0 x1_0_0 x1_0_1 x7 x8)) a0 a1 a2 := by kernel_rfl
theorem slices_IndexFunc_at_Problem_isAlgorithm_1.eok (k : Nat) : EOk Tryz.prog (slices_IndexFunc_at_Problem_isAlgorithm_1.E k) Tryz.f96 :=
  ⟨Tryz.func96, Tryz.ntmps96, by kernel_rfl, tab_ok, mixed, cuts_of (by kernel_rfl), Tab.ok (.cons (impl_Problem_isAlgorithm_1.ok k) (by kernel_rfl) .nil), by kernel_rfl⟩
theorem slices_IndexFunc_at_Problem_isAlgorithm_1.ff (k : Nat) : ∀ n : Nat, (fun x0 x1_0_0 x1_0_1 x7 x8 => FF (slices_IndexFunc_at_Problem_isAlgorithm_1.E k) n slices_IndexFunc_at_Problem_isAlgorithm_1.S2 (slices_IndexFunc_at_Problem_isAlgorithm_1.m2 x0 x1_0_0 x1_0_1 x7 x8)) = slices_IndexFunc_at_Problem_isAlgorithm_1.bs k n
  | 0 => rfl
  | n + 1 => by
    show (fun x0 x1_0_0 x1_0_1 x7 x8 => FF (slices_IndexFunc_at_Problem_isAlgorithm_1.E k) (n + 1) slices_IndexFunc_at_Problem_isAlgorithm_1.S2 (slices_IndexFunc_at_Problem_isAlgorithm_1.m2 x0 x1_0_0 x1_0_1 x7 x8)) = (slices_IndexFunc_at_Problem_isAlgorithm_1.B2 k ((slices_IndexFunc_at_Problem_isAlgorithm_1.bs k n)))
    rw [← slices_IndexFunc_at_Problem_isAlgorithm_1.ff k n]
    exact (funext fun x0 => funext fun x1_0_0 => funext fun x1_0_1 => funext fun x7 => funext fun x8 => (FF_succ ..).trans (slices_IndexFunc_at_Problem_isAlgorithm_1.h2 k (fun t s => FF (slices_IndexFunc_at_Problem_isAlgorithm_1.E k) n t s) x0 x1_0_0 x1_0_1 x7 x8))
theorem slices_IndexFunc_at_Problem_isAlgorithm_1.run (k : Nat) (a0 : List (List Int)) (a1 : List (List Int)) (a2 : List (List Int)): FF (slices_IndexFunc_at_Problem_isAlgorithm_1.E k) (k + 1) [.code (bodyOf Tryz.f96)] (stA (slices_IndexFunc_at_Problem_isAlgorithm_1.E k) [.v (.list (.list (.int .i64))) a0, .v (.list (.list (.int .i64))) a1, .v (.list (.list (.int .i64))) a2]) = slices_IndexFunc_at_Problem_isAlgorithm_1.f k a0 a1 a2 :=
  (FF_succ ..).trans ((slices_IndexFunc_at_Problem_isAlgorithm_1.h k (fun t s => FF (slices_IndexFunc_at_Problem_isAlgorithm_1.E k) k t s) a0 a1 a2).trans (by
    show _ = slices_IndexFunc_at_Problem_isAlgorithm_1.B k ((slices_IndexFunc_at_Problem_isAlgorithm_1.bs k k)) a0 a1 a2
    rw [← slices_IndexFunc_at_Problem_isAlgorithm_1.ff k k]))
theorem slices_IndexFunc_at_Problem_isAlgorithm_1.ok (k : Nat) : FnOK Tryz.prog slices_IndexFunc_at_Problem_isAlgorithm_1.ent slices_IndexFunc_at_Problem_isAlgorithm_1.ts slices_IndexFunc_at_Problem_isAlgorithm_1.rs fun a => slices_IndexFunc_at_Problem_isAlgorithm_1.f k a.1 a.2.1 a.2.2 :=
  ⟨hasBody_of Tryz.func96 (by kernel_rfl), by kernel_rfl, by kernel_rfl, fun a r hr => good_of (E := (slices_IndexFunc_at_Problem_isAlgorithm_1.E k)) (k := (k + 1)) (xs := encL slices_IndexFunc_at_Problem_isAlgorithm_1.ts a) (slices_IndexFunc_at_Problem_isAlgorithm_1.eok k) (body := (bodyOf Tryz.f96)) (by kernel_rfl) (by kernel_rfl) ((slices_IndexFunc_at_Problem_isAlgorithm_1.run k a.1 a.2.1 a.2.2).trans hr)⟩

def slices_ContainsFunc_at_Problem_isAlgorithm_1.B (k : Nat) (a0 : List (List Int)) (a1 : List (List Int)) (a2 : List (List Int)) : Option (Bool) :=
  (slices_IndexFunc_at_Problem_isAlgorithm_1.f k a0 a1 a2).bind fun t1 => some (decide ((0 : Int) ≤ t1))
def slices_ContainsFunc_at_Problem_isAlgorithm_1.f (k : Nat) (a0 : List (List Int)) (a1 : List (List Int)) (a2 : List (List Int)) : Option (Bool) := slices_ContainsFunc_at_Problem_isAlgorithm_1.B k a0 a1 a2
def slices_ContainsFunc_at_Problem_isAlgorithm_1.ent : Ent := ⟨59, [.h (.list (.list (.int .i64))), .fn 72 [] [.rp [.h (.list (.list (.int .i64))), .h (.list (.list (.int .i64)))]]], [], .h (.bool), [], 66⟩
abbrev slices_ContainsFunc_at_Problem_isAlgorithm_1.ts : List Ty := [.list (.list (.int .i64)), .list (.list (.int .i64)), .list (.list (.int .i64))]
abbrev slices_ContainsFunc_at_Problem_isAlgorithm_1.rs : List Ty := [.bool]
noncomputable def slices_ContainsFunc_at_Problem_isAlgorithm_1.E (k : Nat) : Env :=
  ⟨tab, 9, slices_ContainsFunc_at_Problem_isAlgorithm_1.ent, slices_ContainsFunc_at_Problem_isAlgorithm_1.rs, [slices_IndexFunc_at_Problem_isAlgorithm_1.ent], ctOf [(65, mkF slices_IndexFunc_at_Problem_isAlgorithm_1.ts slices_IndexFunc_at_Problem_isAlgorithm_1.rs fun a => slices_IndexFunc_at_Problem_isAlgorithm_1.f k a.1 a.2.1 a.2.2)], [], [.tmp 4]⟩
theorem slices_ContainsFunc_at_Problem_isAlgorithm_1.h (k : Nat) (R : List Item → St → Option (PD slices_ContainsFunc_at_Problem_isAlgorithm_1.rs)) (a0 : List (List Int)) (a1 : List (List Int)) (a2 : List (List Int)) : run (slices_ContainsFunc_at_Problem_isAlgorithm_1.E k) R 4000 true [.code (bodyOf Tryz.f59)] (stA (slices_ContainsFunc_at_Problem_isAlgorithm_1.E k) [.v (.list (.list (.int .i64))) a0, .v (.list (.list (.int .i64))) a1, .v (.list (.list (.int .i64))) a2]) = slices_ContainsFunc_at_Problem_isAlgorithm_1.B k a0 a1 a2 := by kernel_rfl
theorem slices_ContainsFunc_at_Problem_isAlgorithm_1.eok (k : Nat) : EOk Tryz.prog (slices_ContainsFunc_at_Problem_isAlgorithm_1.E k) Tryz.f59 :=
  ⟨Tryz.func59, Tryz.ntmps59, by kernel_rfl, tab_ok, mixed, cuts_of (by kernel_rfl), Tab.ok (.cons (slices_IndexFunc_at_Problem_isAlgorithm_1.ok k) (by kernel_rfl) .nil), by kernel_rfl⟩
theorem slices_ContainsFunc_at_Problem_isAlgorithm_1.run (k : Nat) (a0 : List (List Int)) (a1 : List (List Int)) (a2 : List (List Int)): FF (slices_ContainsFunc_at_Problem_isAlgorithm_1.E k) 1 [.code (bodyOf Tryz.f59)] (stA (slices_ContainsFunc_at_Problem_isAlgorithm_1.E k) [.v (.list (.list (.int .i64))) a0, .v (.list (.list (.int .i64))) a1, .v (.list (.list (.int .i64))) a2]) = slices_ContainsFunc_at_Problem_isAlgorithm_1.f k a0 a1 a2 :=
  (FF_succ ..).trans (slices_ContainsFunc_at_Problem_isAlgorithm_1.h k (fun t s => FF (slices_ContainsFunc_at_Problem_isAlgorithm_1.E k) 0 t s) a0 a1 a2)
theorem slices_ContainsFunc_at_Problem_isAlgorithm_1.ok (k : Nat) : FnOK Tryz.prog slices_ContainsFunc_at_Problem_isAlgorithm_1.ent slices_ContainsFunc_at_Problem_isAlgorithm_1.ts slices_ContainsFunc_at_Problem_isAlgorithm_1.rs fun a => slices_ContainsFunc_at_Problem_isAlgorithm_1.f k a.1 a.2.1 a.2.2 :=
  ⟨hasBody_of Tryz.func59 (by kernel_rfl), by kernel_rfl, by kernel_rfl, fun a r hr => good_of (E := (slices_ContainsFunc_at_Problem_isAlgorithm_1.E k)) (k := 1) (xs := encL slices_ContainsFunc_at_Problem_isAlgorithm_1.ts a) (slices_ContainsFunc_at_Problem_isAlgorithm_1.eok k) (body := (bodyOf Tryz.f59)) (by kernel_rfl) (by kernel_rfl) ((slices_ContainsFunc_at_Problem_isAlgorithm_1.run k a.1 a.2.1 a.2.2).trans hr)⟩

def impl_Problem_isAlgorithm.B (k : Nat) (a0 : List (List Int)) (a1 : List (List Int)) (a2 : List (List Int)) : Option (Bool) :=
  bif decide ((a2.length : Int) = (a0.length : Int)) then ((slices_ContainsFunc_at_Problem_isAlgorithm_1.f k a2 a0 a1).bind fun t1 => some (!t1)) else some false
def impl_Problem_isAlgorithm.f (k : Nat) (a0 : List (List Int)) (a1 : List (List Int)) (a2 : List (List Int)) : Option (Bool) := impl_Problem_isAlgorithm.B k a0 a1 a2
def impl_Problem_isAlgorithm.ent : Ent := ⟨27, [.agg [.h (.list (.list (.int .i64))), .h (.list (.list (.int .i64)))], .h (.list (.list (.int .i64)))], [], .h (.bool), [], 67⟩
abbrev impl_Problem_isAlgorithm.ts : List Ty := [.list (.list (.int .i64)), .list (.list (.int .i64)), .list (.list (.int .i64))]
abbrev impl_Problem_isAlgorithm.rs : List Ty := [.bool]
noncomputable def impl_Problem_isAlgorithm.E (k : Nat) : Env :=
  ⟨tab, 17, impl_Problem_isAlgorithm.ent, impl_Problem_isAlgorithm.rs, [slices_ContainsFunc_at_Problem_isAlgorithm_1.ent], ctOf [(66, mkF slices_ContainsFunc_at_Problem_isAlgorithm_1.ts slices_ContainsFunc_at_Problem_isAlgorithm_1.rs fun a => slices_ContainsFunc_at_Problem_isAlgorithm_1.f k a.1 a.2.1 a.2.2)], [], [.tmp 4]⟩
theorem impl_Problem_isAlgorithm.h (k : Nat) (R : List Item → St → Option (PD impl_Problem_isAlgorithm.rs)) (a0 : List (List Int)) (a1 : List (List Int)) (a2 : List (List Int)) : run (impl_Problem_isAlgorithm.E k) R 4000 true [.code (bodyOf Tryz.f27)] (stA (impl_Problem_isAlgorithm.E k) [.v (.list (.list (.int .i64))) a0, .v (.list (.list (.int .i64))) a1, .v (.list (.list (.int .i64))) a2]) = impl_Problem_isAlgorithm.B k a0 a1 a2 := by kernel_rfl
theorem impl_Problem_isAlgorithm.eok (k : Nat) : EOk Tryz.prog (impl_Problem_isAlgorithm.E k) Tryz.f27 :=
  ⟨Tryz.func27, Tryz.ntmps27, by kernel_rfl, tab_ok, mixed, cuts_of (by kernel_rfl), Tab.ok (.cons (slices_ContainsFunc_at_Problem_isAlgorithm_1.ok k) (by kernel_rfl) .nil), by kernel_rfl⟩
theorem impl_Problem_isAlgorithm.run (k : Nat) (a0 : List (List Int)) (a1 : List (List Int)) (a2 : List (List Int)): FF (impl_Problem_isAlgorithm.E k) 1 [.code (bodyOf Tryz.f27)] (stA (impl_Problem_isAlgorithm.E k) [.v (.list (.list (.int .i64))) a0, .v (.list (.list (.int .i64))) a1, .v (.list (.list (.int .i64))) a2]) = impl_Problem_isAlgorithm.f k a0 a1 a2 :=
  (FF_succ ..).trans (impl_Problem_isAlgorithm.h k (fun t s => FF (impl_Problem_isAlgorithm.E k) 0 t s) a0 a1 a2)
theorem impl_Problem_isAlgorithm.ok (k : Nat) : FnOK Tryz.prog impl_Problem_isAlgorithm.ent impl_Problem_isAlgorithm.ts impl_Problem_isAlgorithm.rs fun a => impl_Problem_isAlgorithm.f k a.1 a.2.1 a.2.2 :=
  ⟨hasBody_of Tryz.func27 (by kernel_rfl), by kernel_rfl, by kernel_rfl, fun a r hr => good_of (E := (impl_Problem_isAlgorithm.E k)) (k := 1) (xs := encL impl_Problem_isAlgorithm.ts a) (impl_Problem_isAlgorithm.eok k) (body := (bodyOf Tryz.f27)) (by kernel_rfl) (by kernel_rfl) ((impl_Problem_isAlgorithm.run k a.1 a.2.1 a.2.2).trans hr)⟩

def impl_Problem_cost.B (a0 : List (List Int)) (a1 : List (List Int)) (a2 : Int) (a3 : Int) (a4 : Int) : Option (Int) :=
  if (0 : Int) ≤ a2 ∧ a2 < (a0.length : Int) then (if (0 : Int) ≤ a3 ∧ a3 < ((a0.getD a2.toNat []).length : Int) then (if (0 : Int) ≤ a4 ∧ a4 < (a1.length : Int) then (if (0 : Int) ≤ a3 ∧ a3 < ((a1.getD a4.toNat []).length : Int) then some (w64 (((a0.getD a2.toNat []).getD a3.toNat 0) + ((a1.getD a4.toNat []).getD a3.toNat 0))) else none) else none) else none) else none
def impl_Problem_cost.f (a0 : List (List Int)) (a1 : List (List Int)) (a2 : Int) (a3 : Int) (a4 : Int) : Option (Int) := impl_Problem_cost.B a0 a1 a2 a3 a4
def impl_Problem_cost.ent : Ent := ⟨74, [.agg [.h (.list (.list (.int .i64))), .h (.list (.list (.int .i64)))], .h (.int .i64), .h (.int .i64), .h (.int .i64)], [], .h (.int .i64), [], 68⟩
abbrev impl_Problem_cost.ts : List Ty := [.list (.list (.int .i64)), .list (.list (.int .i64)), .int .i64, .int .i64, .int .i64]
abbrev impl_Problem_cost.rs : List Ty := [.int .i64]
noncomputable def impl_Problem_cost.E : Env :=
  ⟨tab, 26, impl_Problem_cost.ent, impl_Problem_cost.rs, [], ctOf [], [], [.tmp 8]⟩
theorem impl_Problem_cost.h (R : List Item → St → Option (PD impl_Problem_cost.rs)) (a0 : List (List Int)) (a1 : List (List Int)) (a2 : Int) (a3 : Int) (a4 : Int) : run (impl_Problem_cost.E) R 4000 true [.code (bodyOf Tryz.f74)] (stA (impl_Problem_cost.E) [.v (.list (.list (.int .i64))) a0, .v (.list (.list (.int .i64))) a1, .v (.int .i64) a2, .v (.int .i64) a3, .v (.int .i64) a4]) = impl_Problem_cost.B a0 a1 a2 a3 a4 := by kernel_rfl
theorem impl_Problem_cost.eok : EOk Tryz.prog (impl_Problem_cost.E) Tryz.f74 :=
  ⟨Tryz.func74, Tryz.ntmps74, by kernel_rfl, tab_ok, mixed, cuts_of (by kernel_rfl), Tab.ok .nil, by kernel_rfl⟩
theorem impl_Problem_cost.run (a0 : List (List Int)) (a1 : List (List Int)) (a2 : Int) (a3 : Int) (a4 : Int): FF (impl_Problem_cost.E) 1 [.code (bodyOf Tryz.f74)] (stA (impl_Problem_cost.E) [.v (.list (.list (.int .i64))) a0, .v (.list (.list (.int .i64))) a1, .v (.int .i64) a2, .v (.int .i64) a3, .v (.int .i64) a4]) = impl_Problem_cost.f a0 a1 a2 a3 a4 :=
  (FF_succ ..).trans (impl_Problem_cost.h (fun t s => FF (impl_Problem_cost.E) 0 t s) a0 a1 a2 a3 a4)
theorem impl_Problem_cost.ok : FnOK Tryz.prog impl_Problem_cost.ent impl_Problem_cost.ts impl_Problem_cost.rs fun a => impl_Problem_cost.f a.1 a.2.1 a.2.2.1 a.2.2.2.1 a.2.2.2.2 :=
  ⟨hasBody_of Tryz.func74 (by kernel_rfl), by kernel_rfl, by kernel_rfl, fun a r hr => good_of (E := (impl_Problem_cost.E)) (k := 1) (xs := encL impl_Problem_cost.ts a) (impl_Problem_cost.eok) (body := (bodyOf Tryz.f74)) (by kernel_rfl) (by kernel_rfl) ((impl_Problem_cost.run a.1 a.2.1 a.2.2.1 a.2.2.2.1 a.2.2.2.2).trans hr)⟩

def impl_Problem_ran.B3 (k : Nat) (r3 : List (List Int) → Int → Int → List Int → Int → Int → List (List Int) → List (List Int) → List Int → Option (Int × List Int)) (x1 : List (List Int)) (x2 : Int) (x11 : Int) (x16 : List Int) (x17 : Int) (x18 : Int) (x4_0 : List (List Int)) (x4_1 : List (List Int)) (x10 : List Int) : Option (Int × List Int) :=
  bif decide (x18 < x17) then (if (0 : Int) ≤ x18 ∧ x18 < (x16.length : Int) then (if (0 : Int) ≤ x2 ∧ x2 < (x1.length : Int) then (if (0 : Int) ≤ x16.getD x18.toNat 0 ∧ x16.getD x18.toNat 0 < ((x1.getD x2.toNat []).length : Int) then ((impl_Problem_cost.f x4_0 x4_1 x2 ((x1.getD x2.toNat []).getD (x16.getD x18.toNat 0).toNat 0) (x16.getD x18.toNat 0)).bind fun t1 => (if x10.length + ([(x1.getD x2.toNat []).getD (x16.getD x18.toNat 0).toNat 0]).length ≤ capB then (r3 x1 ((x1.getD x2.toNat []).getD (x16.getD x18.toNat 0).toNat 0) (w64 (x11 + t1)) x16 x17 (w64 (x18 + 1)) x4_0 x4_1 (x10 ++ [(x1.getD x2.toNat []).getD (x16.getD x18.toNat 0).toNat 0])) else none)) else none) else none) else none) else some (x11, x10)
def impl_Problem_ran.B (k : Nat) (r3 : List (List Int) → Int → Int → List Int → Int → Int → List (List Int) → List (List Int) → List Int → Option (Int × List Int)) (a0 : List (List Int)) (a1 : List (List Int)) (a2 : List (List Int)) (a3 : Int) (a4 : List Int) : Option (Int × List Int) :=
  r3 a2 a3 0 a4 (a4.length : Int) 0 a0 a1 []
def impl_Problem_ran.bs (k : Nat) : Nat → (List (List Int) → Int → Int → List Int → Int → Int → List (List Int) → List (List Int) → List Int → Option (Int × List Int))
  | 0 => (fun _ _ _ _ _ _ _ _ _ => none)
  | n + 1 => (impl_Problem_ran.B3 k ((impl_Problem_ran.bs k n)))
def impl_Problem_ran.f (k : Nat) (a0 : List (List Int)) (a1 : List (List Int)) (a2 : List (List Int)) (a3 : Int) (a4 : List Int) : Option (Int × List Int) := impl_Problem_ran.B k ((impl_Problem_ran.bs k k)) a0 a1 a2 a3 a4
def impl_Problem_ran.ent : Ent := ⟨30, [.agg [.h (.list (.list (.int .i64))), .h (.list (.list (.int .i64)))], .h (.list (.list (.int .i64))), .h (.int .i64), .h (.list (.int .i64))], [], .tup [.own 0 (.int .i64), .h (.int .i64)], [.buf (.int .i64)], 69⟩
abbrev impl_Problem_ran.ts : List Ty := [.list (.list (.int .i64)), .list (.list (.int .i64)), .list (.list (.int .i64)), .int .i64, .list (.int .i64)]
abbrev impl_Problem_ran.rs : List Ty := [.int .i64, .list (.int .i64)]
def impl_Problem_ran.c3 : Cut := ⟨3, [(1, .h (.list (.list (.int .i64)))), (2, .h (.int .i64)), (4, .p 0), (10, .own 1 (.int .i64)), (11, .h (.int .i64)), (16, .h (.list (.int .i64))), (17, .h (.int .i64)), (18, .h (.int .i64))], [.box [.h (.list (.list (.int .i64))), .h (.list (.list (.int .i64)))], .buf (.int .i64)]⟩
noncomputable def impl_Problem_ran.E (k : Nat) : Env :=
  ⟨tab, 44, impl_Problem_ran.ent, impl_Problem_ran.rs, [impl_Problem_cost.ent], ctOf [(68, mkF impl_Problem_cost.ts impl_Problem_cost.rs fun a => impl_Problem_cost.f a.1 a.2.1 a.2.2.1 a.2.2.2.1 a.2.2.2.2)], [impl_Problem_ran.c3], [.tmp 8, .tmp 9]⟩
noncomputable def impl_Problem_ran.S3 : List Item := stk (bodyOf Tryz.f30) 3
noncomputable def impl_Problem_ran.m3 (x1 : List (List Int)) (x2 : Int) (x11 : Int) (x16 : List Int) (x17 : Int) (x18 : Int) (x4_0 : List (List Int)) (x4_1 : List (List Int)) (x10 : List Int) : St := mkS impl_Problem_ran.c3 [.v (.list (.list (.int .i64))) x1, .v (.int .i64) x2, .v (.int .i64) x11, .v (.list (.int .i64)) x16, .v (.int .i64) x17, .v (.int .i64) x18, .v (.list (.list (.int .i64))) x4_0, .v (.list (.list (.int .i64))) x4_1, .v (.list (.int .i64)) x10]
theorem impl_Problem_ran.h3 (k : Nat) (R : List Item → St → Option (PD impl_Problem_ran.rs)) (x1 : List (List Int)) (x2 : Int) (x11 : Int) (x16 : List Int) (x17 : Int) (x18 : Int) (x4_0 : List (List Int)) (x4_1 : List (List Int)) (x10 : List Int) : run (impl_Problem_ran.E k) R 4000 true impl_Problem_ran.S3 (impl_Problem_ran.m3 x1 x2 x11 x16 x17 x18 x4_0 x4_1 x10) = impl_Problem_ran.B3 k (fun x1 x2 x11 x16 x17 x18 x4_0 x4_1 x10 => R impl_Problem_ran.S3 (impl_Problem_ran.m3 x1 x2 x11 x16 x17 x18 x4_0 x4_1 x10)) x1 x2 x11 x16 x17 x18 x4_0 x4_1 x10 := by kernel_rfl
theorem impl_Problem_ran.h (k : Nat) (R : List Item → St → Option (PD impl_Problem_ran.rs)) (a0 : List (List Int)) (a1 : List (List Int)) (a2 : List (List Int)) (a3 : Int) (a4 : List Int) : run (impl_Problem_ran.E k) R 4000 true [.code (bodyOf Tryz.f30)] (stA (impl_Problem_ran.E k) [.v (.list (.list (.int .i64))) a0, .v (.list (.list (.int .i64))) a1, .v (.list (.list (.int .i64))) a2, .v (.int .i64) a3, .v (.list (.int .i64)) a4]) = impl_Problem_ran.B k (fun x1 x2 x11 x16 x17 x18 x4_0 x4_1 x10 => R impl_Problem_ran.S3 (impl_Problem_ran.m3 x1 x2 x11 x16 x17 x18 x4_0 x4_1 x10)) a0 a1 a2 a3 a4 := by kernel_rfl
theorem impl_Problem_ran.eok (k : Nat) : EOk Tryz.prog (impl_Problem_ran.E k) Tryz.f30 :=
  ⟨Tryz.func30, Tryz.ntmps30, by kernel_rfl, tab_ok, mixed, cuts_of (by kernel_rfl), Tab.ok (.cons (impl_Problem_cost.ok) (by kernel_rfl) .nil), by kernel_rfl⟩
theorem impl_Problem_ran.ff (k : Nat) : ∀ n : Nat, (fun x1 x2 x11 x16 x17 x18 x4_0 x4_1 x10 => FF (impl_Problem_ran.E k) n impl_Problem_ran.S3 (impl_Problem_ran.m3 x1 x2 x11 x16 x17 x18 x4_0 x4_1 x10)) = impl_Problem_ran.bs k n
  | 0 => rfl
  | n + 1 => by
    show (fun x1 x2 x11 x16 x17 x18 x4_0 x4_1 x10 => FF (impl_Problem_ran.E k) (n + 1) impl_Problem_ran.S3 (impl_Problem_ran.m3 x1 x2 x11 x16 x17 x18 x4_0 x4_1 x10)) = (impl_Problem_ran.B3 k ((impl_Problem_ran.bs k n)))
    rw [← impl_Problem_ran.ff k n]
    exact (funext fun x1 => funext fun x2 => funext fun x11 => funext fun x16 => funext fun x17 => funext fun x18 => funext fun x4_0 => funext fun x4_1 => funext fun x10 => (FF_succ ..).trans (impl_Problem_ran.h3 k (fun t s => FF (impl_Problem_ran.E k) n t s) x1 x2 x11 x16 x17 x18 x4_0 x4_1 x10))
theorem impl_Problem_ran.run (k : Nat) (a0 : List (List Int)) (a1 : List (List Int)) (a2 : List (List Int)) (a3 : Int) (a4 : List Int): FF (impl_Problem_ran.E k) (k + 1) [.code (bodyOf Tryz.f30)] (stA (impl_Problem_ran.E k) [.v (.list (.list (.int .i64))) a0, .v (.list (.list (.int .i64))) a1, .v (.list (.list (.int .i64))) a2, .v (.int .i64) a3, .v (.list (.int .i64)) a4]) = impl_Problem_ran.f k a0 a1 a2 a3 a4 :=
  (FF_succ ..).trans ((impl_Problem_ran.h k (fun t s => FF (impl_Problem_ran.E k) k t s) a0 a1 a2 a3 a4).trans (by
    show _ = impl_Problem_ran.B k ((impl_Problem_ran.bs k k)) a0 a1 a2 a3 a4
    rw [← impl_Problem_ran.ff k k]))
theorem impl_Problem_ran.ok (k : Nat) : FnOK Tryz.prog impl_Problem_ran.ent impl_Problem_ran.ts impl_Problem_ran.rs fun a => impl_Problem_ran.f k a.1 a.2.1 a.2.2.1 a.2.2.2.1 a.2.2.2.2 :=
  ⟨hasBody_of Tryz.func30 (by kernel_rfl), by kernel_rfl, by kernel_rfl, fun a r hr => good_of (E := (impl_Problem_ran.E k)) (k := (k + 1)) (xs := encL impl_Problem_ran.ts a) (impl_Problem_ran.eok k) (body := (bodyOf Tryz.f30)) (by kernel_rfl) (by kernel_rfl) ((impl_Problem_ran.run k a.1 a.2.1 a.2.2.1 a.2.2.2.1 a.2.2.2.2).trans hr)⟩

def impl_ExpectedCost_1.B (k : Nat) (a0 : List Int) (a1 : List (List Int)) (a2 : List (List Int)) (a3 : List (List Int)) (a4 : Int) : Option (Int) :=
  (impl_Problem_ran.f k a1 a2 a3 a4 a0).bind fun t1 => some t1.1
def impl_ExpectedCost_1.f (k : Nat) (a0 : List Int) (a1 : List (List Int)) (a2 : List (List Int)) (a3 : List (List Int)) (a4 : Int) : Option (Int) := impl_ExpectedCost_1.B k a0 a1 a2 a3 a4
def impl_ExpectedCost_1.ent : Ent := ⟨29, [.h (.list (.int .i64)), .rp [.h (.list (.list (.int .i64))), .h (.list (.list (.int .i64)))], .rp [.h (.list (.list (.int .i64)))], .rp [.h (.int .i64)]], [], .h (.int .i64), [], 70⟩
abbrev impl_ExpectedCost_1.ts : List Ty := [.list (.int .i64), .list (.list (.int .i64)), .list (.list (.int .i64)), .list (.list (.int .i64)), .int .i64]
abbrev impl_ExpectedCost_1.rs : List Ty := [.int .i64]
noncomputable def impl_ExpectedCost_1.E (k : Nat) : Env :=
  ⟨tab, 17, impl_ExpectedCost_1.ent, impl_ExpectedCost_1.rs, [impl_Problem_ran.ent], ctOf [(69, mkF impl_Problem_ran.ts impl_Problem_ran.rs fun a => impl_Problem_ran.f k a.1 a.2.1 a.2.2.1 a.2.2.2.1 a.2.2.2.2)], [], [.tmp 5]⟩
theorem impl_ExpectedCost_1.h (k : Nat) (R : List Item → St → Option (PD impl_ExpectedCost_1.rs)) (a0 : List Int) (a1 : List (List Int)) (a2 : List (List Int)) (a3 : List (List Int)) (a4 : Int) : run (impl_ExpectedCost_1.E k) R 4000 true [.code (bodyOf Tryz.f29)] (stA (impl_ExpectedCost_1.E k) [.v (.list (.int .i64)) a0, .v (.list (.list (.int .i64))) a1, .v (.list (.list (.int .i64))) a2, .v (.list (.list (.int .i64))) a3, .v (.int .i64) a4]) = impl_ExpectedCost_1.B k a0 a1 a2 a3 a4 := by kernel_rfl
theorem impl_ExpectedCost_1.eok (k : Nat) : EOk Tryz.prog (impl_ExpectedCost_1.E k) Tryz.f29 :=
  ⟨Tryz.func29, Tryz.ntmps29, by kernel_rfl, tab_ok, mixed, cuts_of (by kernel_rfl), Tab.ok (.cons (impl_Problem_ran.ok k) (by kernel_rfl) .nil), by kernel_rfl⟩
theorem impl_ExpectedCost_1.run (k : Nat) (a0 : List Int) (a1 : List (List Int)) (a2 : List (List Int)) (a3 : List (List Int)) (a4 : Int): FF (impl_ExpectedCost_1.E k) 1 [.code (bodyOf Tryz.f29)] (stA (impl_ExpectedCost_1.E k) [.v (.list (.int .i64)) a0, .v (.list (.list (.int .i64))) a1, .v (.list (.list (.int .i64))) a2, .v (.list (.list (.int .i64))) a3, .v (.int .i64) a4]) = impl_ExpectedCost_1.f k a0 a1 a2 a3 a4 :=
  (FF_succ ..).trans (impl_ExpectedCost_1.h k (fun t s => FF (impl_ExpectedCost_1.E k) 0 t s) a0 a1 a2 a3 a4)
theorem impl_ExpectedCost_1.ok (k : Nat) : FnOK Tryz.prog impl_ExpectedCost_1.ent impl_ExpectedCost_1.ts impl_ExpectedCost_1.rs fun a => impl_ExpectedCost_1.f k a.1 a.2.1 a.2.2.1 a.2.2.2.1 a.2.2.2.2 :=
  ⟨hasBody_of Tryz.func29 (by kernel_rfl), by kernel_rfl, by kernel_rfl, fun a r hr => good_of (E := (impl_ExpectedCost_1.E k)) (k := 1) (xs := encL impl_ExpectedCost_1.ts a) (impl_ExpectedCost_1.eok k) (body := (bodyOf Tryz.f29)) (by kernel_rfl) (by kernel_rfl) ((impl_ExpectedCost_1.run k a.1 a.2.1 a.2.2.1 a.2.2.2.1 a.2.2.2.2).trans hr)⟩

def impl_total.B3 (k : Nat) (r3 : Int → List Int → Int → Int → Option (Int)) (x3 : Int) (x6 : List Int) (x7 : Int) (x8 : Int) : Option (Int) :=
  bif decide (x8 < x7) then (if (0 : Int) ≤ x8 ∧ x8 < (x6.length : Int) then (r3 (w64 (x3 + (x6.getD x8.toNat 0))) x6 x7 (w64 (x8 + 1))) else none) else some x3
def impl_total.B (k : Nat) (r3 : Int → List Int → Int → Int → Option (Int)) (a0 : List Int) : Option (Int) :=
  r3 0 a0 (a0.length : Int) 0
def impl_total.bs (k : Nat) : Nat → (Int → List Int → Int → Int → Option (Int))
  | 0 => (fun _ _ _ _ => none)
  | n + 1 => (impl_total.B3 k ((impl_total.bs k n)))
def impl_total.f (k : Nat) (a0 : List Int) : Option (Int) := impl_total.B k ((impl_total.bs k k)) a0
def impl_total.ent : Ent := ⟨41, [.h (.list (.int .i64))], [], .h (.int .i64), [], 71⟩
abbrev impl_total.ts : List Ty := [.list (.int .i64)]
abbrev impl_total.rs : List Ty := [.int .i64]
def impl_total.c3 : Cut := ⟨3, [(3, .h (.int .i64)), (6, .h (.list (.int .i64))), (7, .h (.int .i64)), (8, .h (.int .i64))], []⟩
noncomputable def impl_total.E (k : Nat) : Env :=
  ⟨tab, 17, impl_total.ent, impl_total.rs, [], ctOf [], [impl_total.c3], [.tmp 2]⟩
noncomputable def impl_total.S3 : List Item := stk (bodyOf Tryz.f41) 3
noncomputable def impl_total.m3 (x3 : Int) (x6 : List Int) (x7 : Int) (x8 : Int) : St := mkS impl_total.c3 [.v (.int .i64) x3, .v (.list (.int .i64)) x6, .v (.int .i64) x7, .v (.int .i64) x8]
theorem impl_total.h3 (k : Nat) (R : List Item → St → Option (PD impl_total.rs)) (x3 : Int) (x6 : List Int) (x7 : Int) (x8 : Int) : run (impl_total.E k) R 4000 true impl_total.S3 (impl_total.m3 x3 x6 x7 x8) = impl_total.B3 k (fun x3 x6 x7 x8 => R impl_total.S3 (impl_total.m3 x3 x6 x7 x8)) x3 x6 x7 x8 := by kernel_rfl
theorem impl_total.h (k : Nat) (R : List Item → St → Option (PD impl_total.rs)) (a0 : List Int) : run (impl_total.E k) R 4000 true [.code (bodyOf Tryz.f41)] (stA (impl_total.E k) [.v (.list (.int .i64)) a0]) = impl_total.B k (fun x3 x6 x7 x8 => R impl_total.S3 (impl_total.m3 x3 x6 x7 x8)) a0 := by kernel_rfl
theorem impl_total.eok (k : Nat) : EOk Tryz.prog (impl_total.E k) Tryz.f41 :=
  ⟨Tryz.func41, Tryz.ntmps41, by kernel_rfl, tab_ok, mixed, cuts_of (by kernel_rfl), Tab.ok .nil, by kernel_rfl⟩
theorem impl_total.ff (k : Nat) : ∀ n : Nat, (fun x3 x6 x7 x8 => FF (impl_total.E k) n impl_total.S3 (impl_total.m3 x3 x6 x7 x8)) = impl_total.bs k n
  | 0 => rfl
  | n + 1 => by
    show (fun x3 x6 x7 x8 => FF (impl_total.E k) (n + 1) impl_total.S3 (impl_total.m3 x3 x6 x7 x8)) = (impl_total.B3 k ((impl_total.bs k n)))
    rw [← impl_total.ff k n]
    exact (funext fun x3 => funext fun x6 => funext fun x7 => funext fun x8 => (FF_succ ..).trans (impl_total.h3 k (fun t s => FF (impl_total.E k) n t s) x3 x6 x7 x8))
theorem impl_total.run (k : Nat) (a0 : List Int): FF (impl_total.E k) (k + 1) [.code (bodyOf Tryz.f41)] (stA (impl_total.E k) [.v (.list (.int .i64)) a0]) = impl_total.f k a0 :=
  (FF_succ ..).trans ((impl_total.h k (fun t s => FF (impl_total.E k) k t s) a0).trans (by
    show _ = impl_total.B k ((impl_total.bs k k)) a0
    rw [← impl_total.ff k k]))
theorem impl_total.ok (k : Nat) : FnOK Tryz.prog impl_total.ent impl_total.ts impl_total.rs fun a => impl_total.f k a :=
  ⟨hasBody_of Tryz.func41 (by kernel_rfl), by kernel_rfl, by kernel_rfl, fun a r hr => good_of (E := (impl_total.E k)) (k := (k + 1)) (xs := encL impl_total.ts a) (impl_total.eok k) (body := (bodyOf Tryz.f41)) (by kernel_rfl) (by kernel_rfl) ((impl_total.run k a).trans hr)⟩

def impl_size.B (a0 : Int) : Option (Int) :=
  some (max a0 (w64 (0 - a0)))
def impl_size.f (a0 : Int) : Option (Int) := impl_size.B a0
def impl_size.ent : Ent := ⟨84, [.h (.int .i64)], [], .h (.int .i64), [], 72⟩
abbrev impl_size.ts : List Ty := [.int .i64]
abbrev impl_size.rs : List Ty := [.int .i64]
noncomputable def impl_size.E : Env :=
  ⟨tab, 7, impl_size.ent, impl_size.rs, [], ctOf [], [], [.tmp 2]⟩
theorem impl_size.h (R : List Item → St → Option (PD impl_size.rs)) (a0 : Int) : run (impl_size.E) R 4000 true [.code (bodyOf Tryz.f84)] (stA (impl_size.E) [.v (.int .i64) a0]) = impl_size.B a0 := by kernel_rfl
theorem impl_size.eok : EOk Tryz.prog (impl_size.E) Tryz.f84 :=
  ⟨Tryz.func84, Tryz.ntmps84, by kernel_rfl, tab_ok, mixed, cuts_of (by kernel_rfl), Tab.ok .nil, by kernel_rfl⟩
theorem impl_size.run (a0 : Int): FF (impl_size.E) 1 [.code (bodyOf Tryz.f84)] (stA (impl_size.E) [.v (.int .i64) a0]) = impl_size.f a0 :=
  (FF_succ ..).trans (impl_size.h (fun t s => FF (impl_size.E) 0 t s) a0)
theorem impl_size.ok : FnOK Tryz.prog impl_size.ent impl_size.ts impl_size.rs fun a => impl_size.f a :=
  ⟨hasBody_of Tryz.func84 (by kernel_rfl), by kernel_rfl, by kernel_rfl, fun a r hr => good_of (E := (impl_size.E)) (k := 1) (xs := encL impl_size.ts a) (impl_size.eok) (body := (bodyOf Tryz.f84)) (by kernel_rfl) (by kernel_rfl) ((impl_size.run a).trans hr)⟩

def impl_divisor.B1 (k : Nat) (r1 : Int → Int → Option (Int)) (x0 : Int) (x1 : Int) : Option (Int) :=
  bif decide ((0 : Int) < x1) then (if x1 ≠ 0 then (r1 x1 (Int.tmod x0 x1)) else none) else some x0
def impl_divisor.B (k : Nat) (r1 : Int → Int → Option (Int)) (a0 : Int) (a1 : Int) : Option (Int) :=
  r1 a0 a1
def impl_divisor.bs (k : Nat) : Nat → (Int → Int → Option (Int))
  | 0 => (fun _ _ => none)
  | n + 1 => (impl_divisor.B1 k ((impl_divisor.bs k n)))
def impl_divisor.f (k : Nat) (a0 : Int) (a1 : Int) : Option (Int) := impl_divisor.B k ((impl_divisor.bs k k)) a0 a1
def impl_divisor.ent : Ent := ⟨83, [.h (.int .i64), .h (.int .i64)], [], .h (.int .i64), [], 73⟩
abbrev impl_divisor.ts : List Ty := [.int .i64, .int .i64]
abbrev impl_divisor.rs : List Ty := [.int .i64]
def impl_divisor.c1 : Cut := ⟨1, [(0, .h (.int .i64)), (1, .h (.int .i64))], []⟩
noncomputable def impl_divisor.E (k : Nat) : Env :=
  ⟨tab, 12, impl_divisor.ent, impl_divisor.rs, [], ctOf [], [impl_divisor.c1], [.tmp 4]⟩
noncomputable def impl_divisor.S1 : List Item := stk (bodyOf Tryz.f83) 1
noncomputable def impl_divisor.m1 (x0 : Int) (x1 : Int) : St := mkS impl_divisor.c1 [.v (.int .i64) x0, .v (.int .i64) x1]
theorem impl_divisor.h1 (k : Nat) (R : List Item → St → Option (PD impl_divisor.rs)) (x0 : Int) (x1 : Int) : run (impl_divisor.E k) R 4000 true impl_divisor.S1 (impl_divisor.m1 x0 x1) = impl_divisor.B1 k (fun x0 x1 => R impl_divisor.S1 (impl_divisor.m1 x0 x1)) x0 x1 := by kernel_rfl
theorem impl_divisor.h (k : Nat) (R : List Item → St → Option (PD impl_divisor.rs)) (a0 : Int) (a1 : Int) : run (impl_divisor.E k) R 4000 true [.code (bodyOf Tryz.f83)] (stA (impl_divisor.E k) [.v (.int .i64) a0, .v (.int .i64) a1]) = impl_divisor.B k (fun x0 x1 => R impl_divisor.S1 (impl_divisor.m1 x0 x1)) a0 a1 := by kernel_rfl
theorem impl_divisor.eok (k : Nat) : EOk Tryz.prog (impl_divisor.E k) Tryz.f83 :=
  ⟨Tryz.func83, Tryz.ntmps83, by kernel_rfl, tab_ok, mixed, cuts_of (by kernel_rfl), Tab.ok .nil, by kernel_rfl⟩
theorem impl_divisor.ff (k : Nat) : ∀ n : Nat, (fun x0 x1 => FF (impl_divisor.E k) n impl_divisor.S1 (impl_divisor.m1 x0 x1)) = impl_divisor.bs k n
  | 0 => rfl
  | n + 1 => by
    show (fun x0 x1 => FF (impl_divisor.E k) (n + 1) impl_divisor.S1 (impl_divisor.m1 x0 x1)) = (impl_divisor.B1 k ((impl_divisor.bs k n)))
    rw [← impl_divisor.ff k n]
    exact (funext fun x0 => funext fun x1 => (FF_succ ..).trans (impl_divisor.h1 k (fun t s => FF (impl_divisor.E k) n t s) x0 x1))
theorem impl_divisor.run (k : Nat) (a0 : Int) (a1 : Int): FF (impl_divisor.E k) (k + 1) [.code (bodyOf Tryz.f83)] (stA (impl_divisor.E k) [.v (.int .i64) a0, .v (.int .i64) a1]) = impl_divisor.f k a0 a1 :=
  (FF_succ ..).trans ((impl_divisor.h k (fun t s => FF (impl_divisor.E k) k t s) a0 a1).trans (by
    show _ = impl_divisor.B k ((impl_divisor.bs k k)) a0 a1
    rw [← impl_divisor.ff k k]))
theorem impl_divisor.ok (k : Nat) : FnOK Tryz.prog impl_divisor.ent impl_divisor.ts impl_divisor.rs fun a => impl_divisor.f k a.1 a.2 :=
  ⟨hasBody_of Tryz.func83 (by kernel_rfl), by kernel_rfl, by kernel_rfl, fun a r hr => good_of (E := (impl_divisor.E k)) (k := (k + 1)) (xs := encL impl_divisor.ts a) (impl_divisor.eok k) (body := (bodyOf Tryz.f83)) (by kernel_rfl) (by kernel_rfl) ((impl_divisor.run k a.1 a.2).trans hr)⟩

def impl_IsFrac.B (k : Nat) (a0 : Int) (a1 : Int) : Option (Bool) :=
  (impl_within.f a1 1 100000).bind fun t1 => (bif t1 then ((impl_within.f a0 (-100000000) 100000000).bind fun t2 => (bif t2 then ((impl_size.f a0).bind fun t3 => ((impl_divisor.f k t3 a1).bind fun t4 => some (decide (t4 = (1 : Int))))) else some false)) else some false)
def impl_IsFrac.f (k : Nat) (a0 : Int) (a1 : Int) : Option (Bool) := impl_IsFrac.B k a0 a1
def impl_IsFrac.ent : Ent := ⟨85, [.agg [.h (.int .i64), .h (.int .i64)]], [], .h (.bool), [], 74⟩
abbrev impl_IsFrac.ts : List Ty := [.int .i64, .int .i64]
abbrev impl_IsFrac.rs : List Ty := [.bool]
noncomputable def impl_IsFrac.E (k : Nat) : Env :=
  ⟨tab, 20, impl_IsFrac.ent, impl_IsFrac.rs, [impl_within.ent, impl_size.ent, impl_divisor.ent], ctOf [(18, mkF impl_within.ts impl_within.rs fun a => impl_within.f a.1 a.2.1 a.2.2),
    (72, mkF impl_size.ts impl_size.rs fun a => impl_size.f a),
    (73, mkF impl_divisor.ts impl_divisor.rs fun a => impl_divisor.f k a.1 a.2)], [], [.tmp 2]⟩
theorem impl_IsFrac.h (k : Nat) (R : List Item → St → Option (PD impl_IsFrac.rs)) (a0 : Int) (a1 : Int) : run (impl_IsFrac.E k) R 4000 true [.code (bodyOf Tryz.f85)] (stA (impl_IsFrac.E k) [.v (.int .i64) a0, .v (.int .i64) a1]) = impl_IsFrac.B k a0 a1 := by kernel_rfl
theorem impl_IsFrac.eok (k : Nat) : EOk Tryz.prog (impl_IsFrac.E k) Tryz.f85 :=
  ⟨Tryz.func85, Tryz.ntmps85, by kernel_rfl, tab_ok, mixed, cuts_of (by kernel_rfl), Tab.ok (.cons (impl_within.ok) (by kernel_rfl) (.cons (impl_size.ok) (by kernel_rfl) (.cons (impl_divisor.ok k) (by kernel_rfl) .nil))), by kernel_rfl⟩
theorem impl_IsFrac.run (k : Nat) (a0 : Int) (a1 : Int): FF (impl_IsFrac.E k) 1 [.code (bodyOf Tryz.f85)] (stA (impl_IsFrac.E k) [.v (.int .i64) a0, .v (.int .i64) a1]) = impl_IsFrac.f k a0 a1 :=
  (FF_succ ..).trans (impl_IsFrac.h k (fun t s => FF (impl_IsFrac.E k) 0 t s) a0 a1)
theorem impl_IsFrac.ok (k : Nat) : FnOK Tryz.prog impl_IsFrac.ent impl_IsFrac.ts impl_IsFrac.rs fun a => impl_IsFrac.f k a.1 a.2 :=
  ⟨hasBody_of Tryz.func85 (by kernel_rfl), by kernel_rfl, by kernel_rfl, fun a r hr => good_of (E := (impl_IsFrac.E k)) (k := 1) (xs := encL impl_IsFrac.ts a) (impl_IsFrac.eok k) (body := (bodyOf Tryz.f85)) (by kernel_rfl) (by kernel_rfl) ((impl_IsFrac.run k a.1 a.2).trans hr)⟩

def impl_makeFrac.B (k : Nat) (a0 : Int) (a1 : Int) : Option (Int × Int × Bool) :=
  (impl_size.f a0).bind fun t1 => ((impl_divisor.f k t1 a1).bind fun t2 => (if t2 ≠ 0 then (if t2 ≠ 0 then ((impl_IsFrac.f k (w64 (Int.tdiv a0 t2)) (w64 (Int.tdiv a1 t2))).bind fun t3 => (bif !t3 then some (0, 0, false) else some (w64 (Int.tdiv a0 t2), w64 (Int.tdiv a1 t2), true))) else none) else none))
def impl_makeFrac.f (k : Nat) (a0 : Int) (a1 : Int) : Option (Int × Int × Bool) := impl_makeFrac.B k a0 a1
def impl_makeFrac.ent : Ent := ⟨39, [.h (.int .i64), .h (.int .i64)], [], .tup [.agg [.h (.int .i64), .h (.int .i64)], .h (.bool)], [], 75⟩
abbrev impl_makeFrac.ts : List Ty := [.int .i64, .int .i64]
abbrev impl_makeFrac.rs : List Ty := [.int .i64, .int .i64, .bool]
noncomputable def impl_makeFrac.E (k : Nat) : Env :=
  ⟨tab, 24, impl_makeFrac.ent, impl_makeFrac.rs, [impl_size.ent, impl_divisor.ent, impl_IsFrac.ent], ctOf [(72, mkF impl_size.ts impl_size.rs fun a => impl_size.f a),
    (73, mkF impl_divisor.ts impl_divisor.rs fun a => impl_divisor.f k a.1 a.2),
    (74, mkF impl_IsFrac.ts impl_IsFrac.rs fun a => impl_IsFrac.f k a.1 a.2)], [], [.cell 4 38, .tmp 5]⟩
theorem impl_makeFrac.h (k : Nat) (R : List Item → St → Option (PD impl_makeFrac.rs)) (a0 : Int) (a1 : Int) : run (impl_makeFrac.E k) R 4000 true [.code (bodyOf Tryz.f39)] (stA (impl_makeFrac.E k) [.v (.int .i64) a0, .v (.int .i64) a1]) = impl_makeFrac.B k a0 a1 := by kernel_rfl
theorem impl_makeFrac.eok (k : Nat) : EOk Tryz.prog (impl_makeFrac.E k) Tryz.f39 :=
  ⟨Tryz.func39, Tryz.ntmps39, by kernel_rfl, tab_ok, mixed, cuts_of (by kernel_rfl), Tab.ok (.cons (impl_size.ok) (by kernel_rfl) (.cons (impl_divisor.ok k) (by kernel_rfl) (.cons (impl_IsFrac.ok k) (by kernel_rfl) .nil))), by kernel_rfl⟩
theorem impl_makeFrac.run (k : Nat) (a0 : Int) (a1 : Int): FF (impl_makeFrac.E k) 1 [.code (bodyOf Tryz.f39)] (stA (impl_makeFrac.E k) [.v (.int .i64) a0, .v (.int .i64) a1]) = impl_makeFrac.f k a0 a1 :=
  (FF_succ ..).trans (impl_makeFrac.h k (fun t s => FF (impl_makeFrac.E k) 0 t s) a0 a1)
theorem impl_makeFrac.ok (k : Nat) : FnOK Tryz.prog impl_makeFrac.ent impl_makeFrac.ts impl_makeFrac.rs fun a => impl_makeFrac.f k a.1 a.2 :=
  ⟨hasBody_of Tryz.func39 (by kernel_rfl), by kernel_rfl, by kernel_rfl, fun a r hr => good_of (E := (impl_makeFrac.E k)) (k := 1) (xs := encL impl_makeFrac.ts a) (impl_makeFrac.eok k) (body := (bodyOf Tryz.f39)) (by kernel_rfl) (by kernel_rfl) ((impl_makeFrac.run k a.1 a.2).trans hr)⟩

def impl_Chances_mean_at_ExpectedCost_1.B3 (k : Nat) (r3 : List (List Int) → List (List Int) → List (List Int) → Int → Int → List (List Int) → Int → Int → List Int → List (List Int) → Int → Int → Option (Int × Int × Bool)) (x1_0_0 : List (List Int)) (x1_0_1 : List (List Int)) (x1_1_0 : List (List Int)) (x1_2_0 : Int) (x6 : Int) (x10 : List (List Int)) (x11 : Int) (x12 : Int) (x2_0 : List Int) (x2_1 : List (List Int)) (x4_0 : Int) (x4_1 : Int) : Option (Int × Int × Bool) :=
  bif decide (x12 < x11) then (if (0 : Int) ≤ x12 ∧ x12 < (x10.length : Int) then (if (0 : Int) ≤ x12 ∧ x12 < (x2_0.length : Int) then ((impl_ExpectedCost_1.f k (x10.getD x12.toNat []) x1_0_0 x1_0_1 x1_1_0 x1_2_0).bind fun t1 => (r3 x1_0_0 x1_0_1 x1_1_0 x1_2_0 (w64 (x6 + (w64 ((x2_0.getD x12.toNat 0) * t1)))) x10 x11 (w64 (x12 + 1)) x2_0 x2_1 x4_0 x4_1)) else none) else none) else ((impl_total.f k x2_0).bind fun t2 => ((impl_makeFrac.f k x6 t2).bind fun t3 => some (t3.1, t3.2.1, t3.2.2)))
def impl_Chances_mean_at_ExpectedCost_1.B (k : Nat) (r3 : List (List Int) → List (List Int) → List (List Int) → Int → Int → List (List Int) → Int → Int → List Int → List (List Int) → Int → Int → Option (Int × Int × Bool)) (a0 : List Int) (a1 : List (List Int)) (a2 : List (List Int)) (a3 : List (List Int)) (a4 : List (List Int)) (a5 : Int) : Option (Int × Int × Bool) :=
  r3 a2 a3 a4 a5 0 a1 (a1.length : Int) 0 a0 a1 0 0
def impl_Chances_mean_at_ExpectedCost_1.bs (k : Nat) : Nat → (List (List Int) → List (List Int) → List (List Int) → Int → Int → List (List Int) → Int → Int → List Int → List (List Int) → Int → Int → Option (Int × Int × Bool))
  | 0 => (fun _ _ _ _ _ _ _ _ _ _ _ _ => none)
  | n + 1 => (impl_Chances_mean_at_ExpectedCost_1.B3 k ((impl_Chances_mean_at_ExpectedCost_1.bs k n)))
def impl_Chances_mean_at_ExpectedCost_1.f (k : Nat) (a0 : List Int) (a1 : List (List Int)) (a2 : List (List Int)) (a3 : List (List Int)) (a4 : List (List Int)) (a5 : Int) : Option (Int × Int × Bool) := impl_Chances_mean_at_ExpectedCost_1.B k ((impl_Chances_mean_at_ExpectedCost_1.bs k k)) a0 a1 a2 a3 a4 a5
def impl_Chances_mean_at_ExpectedCost_1.ent : Ent := ⟨28, [.agg [.h (.list (.int .i64)), .h (.list (.list (.int .i64)))], .fn 29 [] [.rp [.h (.list (.list (.int .i64))), .h (.list (.list (.int .i64)))], .rp [.h (.list (.list (.int .i64)))], .rp [.h (.int .i64)]]], [], .tup [.agg [.h (.int .i64), .h (.int .i64)], .h (.bool)], [], 76⟩
abbrev impl_Chances_mean_at_ExpectedCost_1.ts : List Ty := [.list (.int .i64), .list (.list (.int .i64)), .list (.list (.int .i64)), .list (.list (.int .i64)), .list (.list (.int .i64)), .int .i64]
abbrev impl_Chances_mean_at_ExpectedCost_1.rs : List Ty := [.int .i64, .int .i64, .bool]
def impl_Chances_mean_at_ExpectedCost_1.c3 : Cut := ⟨3, [(1, .fn 29 [] [.rp [.h (.list (.list (.int .i64))), .h (.list (.list (.int .i64)))], .rp [.h (.list (.list (.int .i64)))], .rp [.h (.int .i64)]]), (2, .p 0), (4, .p 1), (6, .h (.int .i64)), (10, .h (.list (.list (.int .i64)))), (11, .h (.int .i64)), (12, .h (.int .i64))], [.box [.h (.list (.int .i64)), .h (.list (.list (.int .i64)))], .box [.h (.int .i64), .h (.int .i64)]]⟩
noncomputable def impl_Chances_mean_at_ExpectedCost_1.E (k : Nat) : Env :=
  ⟨tab, 36, impl_Chances_mean_at_ExpectedCost_1.ent, impl_Chances_mean_at_ExpectedCost_1.rs, [impl_ExpectedCost_1.ent, impl_total.ent, impl_makeFrac.ent], ctOf [(70, mkF impl_ExpectedCost_1.ts impl_ExpectedCost_1.rs fun a => impl_ExpectedCost_1.f k a.1 a.2.1 a.2.2.1 a.2.2.2.1 a.2.2.2.2),
    (71, mkF impl_total.ts impl_total.rs fun a => impl_total.f k a),
    (75, mkF impl_makeFrac.ts impl_makeFrac.rs fun a => impl_makeFrac.f k a.1 a.2)], [impl_Chances_mean_at_ExpectedCost_1.c3], [.cell 4 38, .tmp 5]⟩
noncomputable def impl_Chances_mean_at_ExpectedCost_1.S3 : List Item := stk (bodyOf Tryz.f28) 3
noncomputable def impl_Chances_mean_at_ExpectedCost_1.m3 (x1_0_0 : List (List Int)) (x1_0_1 : List (List Int)) (x1_1_0 : List (List Int)) (x1_2_0 : Int) (x6 : Int) (x10 : List (List Int)) (x11 : Int) (x12 : Int) (x2_0 : List Int) (x2_1 : List (List Int)) (x4_0 : Int) (x4_1 : Int) : St := mkS impl_Chances_mean_at_ExpectedCost_1.c3 [.v (.list (.list (.int .i64))) x1_0_0, .v (.list (.list (.int .i64))) x1_0_1, .v (.list (.list (.int .i64))) x1_1_0, .v (.int .i64) x1_2_0, .v (.int .i64) x6, .v (.list (.list (.int .i64))) x10, .v (.int .i64) x11, .v (.int .i64) x12, .v (.list (.int .i64)) x2_0, .v (.list (.list (.int .i64))) x2_1, .v (.int .i64) x4_0, .v (.int .i64) x4_1]
theorem impl_Chances_mean_at_ExpectedCost_1.h3 (k : Nat) (R : List Item → St → Option (PD impl_Chances_mean_at_ExpectedCost_1.rs)) (x1_0_0 : List (List Int)) (x1_0_1 : List (List Int)) (x1_1_0 : List (List Int)) (x1_2_0 : Int) (x6 : Int) (x10 : List (List Int)) (x11 : Int) (x12 : Int) (x2_0 : List Int) (x2_1 : List (List Int)) (x4_0 : Int) (x4_1 : Int) : run (impl_Chances_mean_at_ExpectedCost_1.E k) R 4000 true impl_Chances_mean_at_ExpectedCost_1.S3 (impl_Chances_mean_at_ExpectedCost_1.m3 x1_0_0 x1_0_1 x1_1_0 x1_2_0 x6 x10 x11 x12 x2_0 x2_1 x4_0 x4_1) = impl_Chances_mean_at_ExpectedCost_1.B3 k (fun x1_0_0 x1_0_1 x1_1_0 x1_2_0 x6 x10 x11 x12 x2_0 x2_1 x4_0 x4_1 => R impl_Chances_mean_at_ExpectedCost_1.S3 (impl_Chances_mean_at_ExpectedCost_1.m3 x1_0_0 x1_0_1 x1_1_0 x1_2_0 x6 x10 x11 x12 x2_0 x2_1 x4_0 x4_1)) x1_0_0 x1_0_1 x1_1_0 x1_2_0 x6 x10 x11 x12 x2_0 x2_1 x4_0 x4_1 := by kernel_rfl
theorem impl_Chances_mean_at_ExpectedCost_1.h (k : Nat) (R : List Item → St → Option (PD impl_Chances_mean_at_ExpectedCost_1.rs)) (a0 : List Int) (a1 : List (List Int)) (a2 : List (List Int)) (a3 : List (List Int)) (a4 : List (List Int)) (a5 : Int) : run (impl_Chances_mean_at_ExpectedCost_1.E k) R 4000 true [.code (bodyOf Tryz.f28)] (stA (impl_Chances_mean_at_ExpectedCost_1.E k) [.v (.list (.int .i64)) a0, .v (.list (.list (.int .i64))) a1, .v (.list (.list (.int .i64))) a2, .v (.list (.list (.int .i64))) a3, .v (.list (.list (.int .i64))) a4, .v (.int .i64) a5]) = impl_Chances_mean_at_ExpectedCost_1.B k (fun x1_0_0 x1_0_1 x1_1_0 x1_2_0 x6 x10 x11 x12 x2_0 x2_1 x4_0 x4_1 => R impl_Chances_mean_at_ExpectedCost_1.S3 (impl_Chances_mean_at_ExpectedCost_1.m3 x1_0_0 x1_0_1 x1_1_0 x1_2_0 x6 x10 x11 x12 x2_0 x2_1 x4_0 x4_1)) a0 a1 a2 a3 a4 a5 := by kernel_rfl
theorem impl_Chances_mean_at_ExpectedCost_1.eok (k : Nat) : EOk Tryz.prog (impl_Chances_mean_at_ExpectedCost_1.E k) Tryz.f28 :=
  ⟨Tryz.func28, Tryz.ntmps28, by kernel_rfl, tab_ok, mixed, cuts_of (by kernel_rfl), Tab.ok (.cons (impl_ExpectedCost_1.ok k) (by kernel_rfl) (.cons (impl_total.ok k) (by kernel_rfl) (.cons (impl_makeFrac.ok k) (by kernel_rfl) .nil))), by kernel_rfl⟩
theorem impl_Chances_mean_at_ExpectedCost_1.ff (k : Nat) : ∀ n : Nat, (fun x1_0_0 x1_0_1 x1_1_0 x1_2_0 x6 x10 x11 x12 x2_0 x2_1 x4_0 x4_1 => FF (impl_Chances_mean_at_ExpectedCost_1.E k) n impl_Chances_mean_at_ExpectedCost_1.S3 (impl_Chances_mean_at_ExpectedCost_1.m3 x1_0_0 x1_0_1 x1_1_0 x1_2_0 x6 x10 x11 x12 x2_0 x2_1 x4_0 x4_1)) = impl_Chances_mean_at_ExpectedCost_1.bs k n
  | 0 => rfl
  | n + 1 => by
    show (fun x1_0_0 x1_0_1 x1_1_0 x1_2_0 x6 x10 x11 x12 x2_0 x2_1 x4_0 x4_1 => FF (impl_Chances_mean_at_ExpectedCost_1.E k) (n + 1) impl_Chances_mean_at_ExpectedCost_1.S3 (impl_Chances_mean_at_ExpectedCost_1.m3 x1_0_0 x1_0_1 x1_1_0 x1_2_0 x6 x10 x11 x12 x2_0 x2_1 x4_0 x4_1)) = (impl_Chances_mean_at_ExpectedCost_1.B3 k ((impl_Chances_mean_at_ExpectedCost_1.bs k n)))
    rw [← impl_Chances_mean_at_ExpectedCost_1.ff k n]
    exact (funext fun x1_0_0 => funext fun x1_0_1 => funext fun x1_1_0 => funext fun x1_2_0 => funext fun x6 => funext fun x10 => funext fun x11 => funext fun x12 => funext fun x2_0 => funext fun x2_1 => funext fun x4_0 => funext fun x4_1 => (FF_succ ..).trans (impl_Chances_mean_at_ExpectedCost_1.h3 k (fun t s => FF (impl_Chances_mean_at_ExpectedCost_1.E k) n t s) x1_0_0 x1_0_1 x1_1_0 x1_2_0 x6 x10 x11 x12 x2_0 x2_1 x4_0 x4_1))
theorem impl_Chances_mean_at_ExpectedCost_1.run (k : Nat) (a0 : List Int) (a1 : List (List Int)) (a2 : List (List Int)) (a3 : List (List Int)) (a4 : List (List Int)) (a5 : Int): FF (impl_Chances_mean_at_ExpectedCost_1.E k) (k + 1) [.code (bodyOf Tryz.f28)] (stA (impl_Chances_mean_at_ExpectedCost_1.E k) [.v (.list (.int .i64)) a0, .v (.list (.list (.int .i64))) a1, .v (.list (.list (.int .i64))) a2, .v (.list (.list (.int .i64))) a3, .v (.list (.list (.int .i64))) a4, .v (.int .i64) a5]) = impl_Chances_mean_at_ExpectedCost_1.f k a0 a1 a2 a3 a4 a5 :=
  (FF_succ ..).trans ((impl_Chances_mean_at_ExpectedCost_1.h k (fun t s => FF (impl_Chances_mean_at_ExpectedCost_1.E k) k t s) a0 a1 a2 a3 a4 a5).trans (by
    show _ = impl_Chances_mean_at_ExpectedCost_1.B k ((impl_Chances_mean_at_ExpectedCost_1.bs k k)) a0 a1 a2 a3 a4 a5
    rw [← impl_Chances_mean_at_ExpectedCost_1.ff k k]))
theorem impl_Chances_mean_at_ExpectedCost_1.ok (k : Nat) : FnOK Tryz.prog impl_Chances_mean_at_ExpectedCost_1.ent impl_Chances_mean_at_ExpectedCost_1.ts impl_Chances_mean_at_ExpectedCost_1.rs fun a => impl_Chances_mean_at_ExpectedCost_1.f k a.1 a.2.1 a.2.2.1 a.2.2.2.1 a.2.2.2.2.1 a.2.2.2.2.2 :=
  ⟨hasBody_of Tryz.func28 (by kernel_rfl), by kernel_rfl, by kernel_rfl, fun a r hr => good_of (E := (impl_Chances_mean_at_ExpectedCost_1.E k)) (k := (k + 1)) (xs := encL impl_Chances_mean_at_ExpectedCost_1.ts a) (impl_Chances_mean_at_ExpectedCost_1.eok k) (body := (bodyOf Tryz.f28)) (by kernel_rfl) (by kernel_rfl) ((impl_Chances_mean_at_ExpectedCost_1.run k a.1 a.2.1 a.2.2.1 a.2.2.2.1 a.2.2.2.2.1 a.2.2.2.2.2).trans hr)⟩

def impl_ExpectedCost.B (k : Nat) (a0 : List (List Int)) (a1 : List (List Int)) (a2 : List (List Int)) (a3 : Int) (a4 : List Int) (a5 : List (List Int)) : Option (Int × Int × Bool) :=
  (impl_isDrawn.f k a0 a1 a3 a4 a5).bind fun t1 => (bif !t1 then some (0, 0, false) else ((impl_Problem_isAlgorithm.f k a0 a1 a2).bind fun t2 => (bif !t2 then some (0, 0, false) else ((impl_Chances_mean_at_ExpectedCost_1.f k a4 a5 a0 a1 a2 a3).bind fun t3 => some (t3.1, t3.2.1, t3.2.2)))))
def impl_ExpectedCost.f (k : Nat) (a0 : List (List Int)) (a1 : List (List Int)) (a2 : List (List Int)) (a3 : Int) (a4 : List Int) (a5 : List (List Int)) : Option (Int × Int × Bool) := impl_ExpectedCost.B k a0 a1 a2 a3 a4 a5
def impl_ExpectedCost.ent : Ent := ⟨10, [.agg [.h (.list (.list (.int .i64))), .h (.list (.list (.int .i64)))], .h (.list (.list (.int .i64))), .h (.int .i64), .agg [.h (.list (.int .i64)), .h (.list (.list (.int .i64)))]], [], .tup [.agg [.h (.int .i64), .h (.int .i64)], .h (.bool)], [], 77⟩
abbrev impl_ExpectedCost.ts : List Ty := [.list (.list (.int .i64)), .list (.list (.int .i64)), .list (.list (.int .i64)), .int .i64, .list (.int .i64), .list (.list (.int .i64))]
abbrev impl_ExpectedCost.rs : List Ty := [.int .i64, .int .i64, .bool]
noncomputable def impl_ExpectedCost.E (k : Nat) : Env :=
  ⟨tab, 27, impl_ExpectedCost.ent, impl_ExpectedCost.rs, [impl_isDrawn.ent, impl_Problem_isAlgorithm.ent, impl_Chances_mean_at_ExpectedCost_1.ent], ctOf [(62, mkF impl_isDrawn.ts impl_isDrawn.rs fun a => impl_isDrawn.f k a.1 a.2.1 a.2.2.1 a.2.2.2.1 a.2.2.2.2),
    (67, mkF impl_Problem_isAlgorithm.ts impl_Problem_isAlgorithm.rs fun a => impl_Problem_isAlgorithm.f k a.1 a.2.1 a.2.2),
    (76, mkF impl_Chances_mean_at_ExpectedCost_1.ts impl_Chances_mean_at_ExpectedCost_1.rs fun a => impl_Chances_mean_at_ExpectedCost_1.f k a.1 a.2.1 a.2.2.1 a.2.2.2.1 a.2.2.2.2.1 a.2.2.2.2.2)], [], [.cell 8 38, .tmp 9]⟩
theorem impl_ExpectedCost.h (k : Nat) (R : List Item → St → Option (PD impl_ExpectedCost.rs)) (a0 : List (List Int)) (a1 : List (List Int)) (a2 : List (List Int)) (a3 : Int) (a4 : List Int) (a5 : List (List Int)) : run (impl_ExpectedCost.E k) R 4000 true [.code (bodyOf Tryz.f10)] (stA (impl_ExpectedCost.E k) [.v (.list (.list (.int .i64))) a0, .v (.list (.list (.int .i64))) a1, .v (.list (.list (.int .i64))) a2, .v (.int .i64) a3, .v (.list (.int .i64)) a4, .v (.list (.list (.int .i64))) a5]) = impl_ExpectedCost.B k a0 a1 a2 a3 a4 a5 := by kernel_rfl
theorem impl_ExpectedCost.eok (k : Nat) : EOk Tryz.prog (impl_ExpectedCost.E k) Tryz.f10 :=
  ⟨Tryz.func10, Tryz.ntmps10, by kernel_rfl, tab_ok, mixed, cuts_of (by kernel_rfl), Tab.ok (.cons (impl_isDrawn.ok k) (by kernel_rfl) (.cons (impl_Problem_isAlgorithm.ok k) (by kernel_rfl) (.cons (impl_Chances_mean_at_ExpectedCost_1.ok k) (by kernel_rfl) .nil))), by kernel_rfl⟩
theorem impl_ExpectedCost.run (k : Nat) (a0 : List (List Int)) (a1 : List (List Int)) (a2 : List (List Int)) (a3 : Int) (a4 : List Int) (a5 : List (List Int)): FF (impl_ExpectedCost.E k) 1 [.code (bodyOf Tryz.f10)] (stA (impl_ExpectedCost.E k) [.v (.list (.list (.int .i64))) a0, .v (.list (.list (.int .i64))) a1, .v (.list (.list (.int .i64))) a2, .v (.int .i64) a3, .v (.list (.int .i64)) a4, .v (.list (.list (.int .i64))) a5]) = impl_ExpectedCost.f k a0 a1 a2 a3 a4 a5 :=
  (FF_succ ..).trans (impl_ExpectedCost.h k (fun t s => FF (impl_ExpectedCost.E k) 0 t s) a0 a1 a2 a3 a4 a5)
theorem impl_ExpectedCost.ok (k : Nat) : FnOK Tryz.prog impl_ExpectedCost.ent impl_ExpectedCost.ts impl_ExpectedCost.rs fun a => impl_ExpectedCost.f k a.1 a.2.1 a.2.2.1 a.2.2.2.1 a.2.2.2.2.1 a.2.2.2.2.2 :=
  ⟨hasBody_of Tryz.func10 (by kernel_rfl), by kernel_rfl, by kernel_rfl, fun a r hr => good_of (E := (impl_ExpectedCost.E k)) (k := 1) (xs := encL impl_ExpectedCost.ts a) (impl_ExpectedCost.eok k) (body := (bodyOf Tryz.f10)) (by kernel_rfl) (by kernel_rfl) ((impl_ExpectedCost.run k a.1 a.2.1 a.2.2.1 a.2.2.2.1 a.2.2.2.2.1 a.2.2.2.2.2).trans hr)⟩

def spec_l11Start.B (k : Nat) (a0 : List (List Int)) (a1 : List (List Int)) (a2 : Int) (a3 : List Int) (a4 : List (List Int)) : Option (Bool) :=
  (spec_l11Chances.f k a0 a1 a3 a4).bind fun t1 => (bif t1 then ((spec_l1In.f a2 0 (w64 ((a0.length : Int) - 1))).bind fun t2 => some t2) else some false)
def spec_l11Start.f (k : Nat) (a0 : List (List Int)) (a1 : List (List Int)) (a2 : Int) (a3 : List Int) (a4 : List (List Int)) : Option (Bool) := spec_l11Start.B k a0 a1 a2 a3 a4
def spec_l11Start.ent : Ent := ⟨31, [.agg [.h (.list (.list (.int .i64))), .h (.list (.list (.int .i64)))], .h (.int .i64), .agg [.h (.list (.int .i64)), .h (.list (.list (.int .i64)))]], [], .h (.bool), [], 78⟩
abbrev spec_l11Start.ts : List Ty := [.list (.list (.int .i64)), .list (.list (.int .i64)), .int .i64, .list (.int .i64), .list (.list (.int .i64))]
abbrev spec_l11Start.rs : List Ty := [.bool]
noncomputable def spec_l11Start.E (k : Nat) : Env :=
  ⟨tab, 18, spec_l11Start.ent, spec_l11Start.rs, [spec_l11Chances.ent, spec_l1In.ent], ctOf [(54, mkF spec_l11Chances.ts spec_l11Chances.rs fun a => spec_l11Chances.f k a.1 a.2.1 a.2.2.1 a.2.2.2),
    (10, mkF spec_l1In.ts spec_l1In.rs fun a => spec_l1In.f a.1 a.2.1 a.2.2)], [], [.tmp 6]⟩
theorem spec_l11Start.h (k : Nat) (R : List Item → St → Option (PD spec_l11Start.rs)) (a0 : List (List Int)) (a1 : List (List Int)) (a2 : Int) (a3 : List Int) (a4 : List (List Int)) : run (spec_l11Start.E k) R 4000 true [.code (bodyOf Tryz.f31)] (stA (spec_l11Start.E k) [.v (.list (.list (.int .i64))) a0, .v (.list (.list (.int .i64))) a1, .v (.int .i64) a2, .v (.list (.int .i64)) a3, .v (.list (.list (.int .i64))) a4]) = spec_l11Start.B k a0 a1 a2 a3 a4 := by kernel_rfl
theorem spec_l11Start.eok (k : Nat) : EOk Tryz.prog (spec_l11Start.E k) Tryz.f31 :=
  ⟨Tryz.func31, Tryz.ntmps31, by kernel_rfl, tab_ok, mixed, cuts_of (by kernel_rfl), Tab.ok (.cons (spec_l11Chances.ok k) (by kernel_rfl) (.cons (spec_l1In.ok) (by kernel_rfl) .nil)), by kernel_rfl⟩
theorem spec_l11Start.run (k : Nat) (a0 : List (List Int)) (a1 : List (List Int)) (a2 : Int) (a3 : List Int) (a4 : List (List Int)): FF (spec_l11Start.E k) 1 [.code (bodyOf Tryz.f31)] (stA (spec_l11Start.E k) [.v (.list (.list (.int .i64))) a0, .v (.list (.list (.int .i64))) a1, .v (.int .i64) a2, .v (.list (.int .i64)) a3, .v (.list (.list (.int .i64))) a4]) = spec_l11Start.f k a0 a1 a2 a3 a4 :=
  (FF_succ ..).trans (spec_l11Start.h k (fun t s => FF (spec_l11Start.E k) 0 t s) a0 a1 a2 a3 a4)
theorem spec_l11Start.ok (k : Nat) : FnOK Tryz.prog spec_l11Start.ent spec_l11Start.ts spec_l11Start.rs fun a => spec_l11Start.f k a.1 a.2.1 a.2.2.1 a.2.2.2.1 a.2.2.2.2 :=
  ⟨hasBody_of Tryz.func31 (by kernel_rfl), by kernel_rfl, by kernel_rfl, fun a r hr => good_of (E := (spec_l11Start.E k)) (k := 1) (xs := encL spec_l11Start.ts a) (spec_l11Start.eok k) (body := (bodyOf Tryz.f31)) (by kernel_rfl) (by kernel_rfl) ((spec_l11Start.run k a.1 a.2.1 a.2.2.1 a.2.2.2.1 a.2.2.2.2).trans hr)⟩

def spec_l8Alg.B4 (k : Nat) (r4 : List (List Int) → Int → List (List Int) → List (List Int) → Option (Bool)) (r9 : List (List Int) → Int → Int → List (List Int) → List (List Int) → Option (Bool)) (x1 : List (List Int)) (x5 : Int) (x2_0 : List (List Int)) (x2_1 : List (List Int)) : Option (Bool) :=
  bif decide (x5 < (x1.length : Int)) then (if (0 : Int) ≤ x5 ∧ x5 < (x1.length : Int) then (bif !decide (((x1.getD x5.toNat []).length : Int) = (x2_1.length : Int)) then some false else (r9 x1 x5 0 x2_0 x2_1)) else none) else some true
def spec_l8Alg.B9 (k : Nat) (r4 : List (List Int) → Int → List (List Int) → List (List Int) → Option (Bool)) (r9 : List (List Int) → Int → Int → List (List Int) → List (List Int) → Option (Bool)) (x1 : List (List Int)) (x5 : Int) (x6 : Int) (x2_0 : List (List Int)) (x2_1 : List (List Int)) : Option (Bool) :=
  if (0 : Int) ≤ x5 ∧ x5 < (x1.length : Int) then (bif decide (x6 < ((x1.getD x5.toNat []).length : Int)) then (if (0 : Int) ≤ x5 ∧ x5 < (x1.length : Int) then (if (0 : Int) ≤ x6 ∧ x6 < ((x1.getD x5.toNat []).length : Int) then ((spec_l1In.f ((x1.getD x5.toNat []).getD x6.toNat 0) 0 (w64 ((x2_0.length : Int) - 1))).bind fun t1 => (bif !t1 then some false else (if (0 : Int) ≤ x6 ∧ x6 < (x2_1.length : Int) then (if (0 : Int) ≤ x5 ∧ x5 < (x1.length : Int) then (if (0 : Int) ≤ x6 ∧ x6 < ((x1.getD x5.toNat []).length : Int) then (if (0 : Int) ≤ (x1.getD x5.toNat []).getD x6.toNat 0 ∧ (x1.getD x5.toNat []).getD x6.toNat 0 < ((x2_1.getD x6.toNat []).length : Int) then (bif decide ((x2_1.getD x6.toNat []).getD ((x1.getD x5.toNat []).getD x6.toNat 0).toNat 0 < (0 : Int)) then some false else (r9 x1 x5 (w64 (x6 + 1)) x2_0 x2_1)) else none) else none) else none) else none))) else none) else none) else (r4 x1 (w64 (x5 + 1)) x2_0 x2_1)) else none
def spec_l8Alg.B (k : Nat) (r4 : List (List Int) → Int → List (List Int) → List (List Int) → Option (Bool)) (r9 : List (List Int) → Int → Int → List (List Int) → List (List Int) → Option (Bool)) (a0 : List (List Int)) (a1 : List (List Int)) (a2 : List (List Int)) : Option (Bool) :=
  bif !decide ((a2.length : Int) = (a0.length : Int)) then some false else (r4 a2 0 a0 a1)
def spec_l8Alg.bs (k : Nat) : Nat → (List (List Int) → Int → List (List Int) → List (List Int) → Option (Bool)) × (List (List Int) → Int → Int → List (List Int) → List (List Int) → Option (Bool))
  | 0 => (fun _ _ _ _ => none, fun _ _ _ _ _ => none)
  | n + 1 => (spec_l8Alg.B4 k ((spec_l8Alg.bs k n).1) ((spec_l8Alg.bs k n).2), spec_l8Alg.B9 k ((spec_l8Alg.bs k n).1) ((spec_l8Alg.bs k n).2))
def spec_l8Alg.f (k : Nat) (a0 : List (List Int)) (a1 : List (List Int)) (a2 : List (List Int)) : Option (Bool) := spec_l8Alg.B k ((spec_l8Alg.bs k k).1) ((spec_l8Alg.bs k k).2) a0 a1 a2
def spec_l8Alg.ent : Ent := ⟨32, [.agg [.h (.list (.list (.int .i64))), .h (.list (.list (.int .i64)))], .h (.list (.list (.int .i64)))], [], .h (.bool), [], 79⟩
abbrev spec_l8Alg.ts : List Ty := [.list (.list (.int .i64)), .list (.list (.int .i64)), .list (.list (.int .i64))]
abbrev spec_l8Alg.rs : List Ty := [.bool]
def spec_l8Alg.c4 : Cut := ⟨4, [(1, .h (.list (.list (.int .i64)))), (2, .p 0), (5, .h (.int .i64))], [.box [.h (.list (.list (.int .i64))), .h (.list (.list (.int .i64)))]]⟩
def spec_l8Alg.c9 : Cut := ⟨9, [(1, .h (.list (.list (.int .i64)))), (2, .p 0), (5, .h (.int .i64)), (6, .h (.int .i64))], [.box [.h (.list (.list (.int .i64))), .h (.list (.list (.int .i64)))]]⟩
noncomputable def spec_l8Alg.E (k : Nat) : Env :=
  ⟨tab, 67, spec_l8Alg.ent, spec_l8Alg.rs, [spec_l1In.ent], ctOf [(10, mkF spec_l1In.ts spec_l1In.rs fun a => spec_l1In.f a.1 a.2.1 a.2.2)], [spec_l8Alg.c4, spec_l8Alg.c9], [.tmp 4]⟩
noncomputable def spec_l8Alg.S4 : List Item := stk (bodyOf Tryz.f32) 4
noncomputable def spec_l8Alg.m4 (x1 : List (List Int)) (x5 : Int) (x2_0 : List (List Int)) (x2_1 : List (List Int)) : St := mkS spec_l8Alg.c4 [.v (.list (.list (.int .i64))) x1, .v (.int .i64) x5, .v (.list (.list (.int .i64))) x2_0, .v (.list (.list (.int .i64))) x2_1]
noncomputable def spec_l8Alg.S9 : List Item := stk (bodyOf Tryz.f32) 9
noncomputable def spec_l8Alg.m9 (x1 : List (List Int)) (x5 : Int) (x6 : Int) (x2_0 : List (List Int)) (x2_1 : List (List Int)) : St := mkS spec_l8Alg.c9 [.v (.list (.list (.int .i64))) x1, .v (.int .i64) x5, .v (.int .i64) x6, .v (.list (.list (.int .i64))) x2_0, .v (.list (.list (.int .i64))) x2_1]
theorem spec_l8Alg.h4 (k : Nat) (R : List Item → St → Option (PD spec_l8Alg.rs)) (x1 : List (List Int)) (x5 : Int) (x2_0 : List (List Int)) (x2_1 : List (List Int)) : run (spec_l8Alg.E k) R 4000 true spec_l8Alg.S4 (spec_l8Alg.m4 x1 x5 x2_0 x2_1) = spec_l8Alg.B4 k (fun x1 x5 x2_0 x2_1 => R spec_l8Alg.S4 (spec_l8Alg.m4 x1 x5 x2_0 x2_1)) (fun x1 x5 x6 x2_0 x2_1 => R spec_l8Alg.S9 (spec_l8Alg.m9 x1 x5 x6 x2_0 x2_1)) x1 x5 x2_0 x2_1 := by kernel_rfl
theorem spec_l8Alg.h9 (k : Nat) (R : List Item → St → Option (PD spec_l8Alg.rs)) (x1 : List (List Int)) (x5 : Int) (x6 : Int) (x2_0 : List (List Int)) (x2_1 : List (List Int)) : run (spec_l8Alg.E k) R 4000 true spec_l8Alg.S9 (spec_l8Alg.m9 x1 x5 x6 x2_0 x2_1) = spec_l8Alg.B9 k (fun x1 x5 x2_0 x2_1 => R spec_l8Alg.S4 (spec_l8Alg.m4 x1 x5 x2_0 x2_1)) (fun x1 x5 x6 x2_0 x2_1 => R spec_l8Alg.S9 (spec_l8Alg.m9 x1 x5 x6 x2_0 x2_1)) x1 x5 x6 x2_0 x2_1 := by kernel_rfl
theorem spec_l8Alg.h (k : Nat) (R : List Item → St → Option (PD spec_l8Alg.rs)) (a0 : List (List Int)) (a1 : List (List Int)) (a2 : List (List Int)) : run (spec_l8Alg.E k) R 4000 true [.code (bodyOf Tryz.f32)] (stA (spec_l8Alg.E k) [.v (.list (.list (.int .i64))) a0, .v (.list (.list (.int .i64))) a1, .v (.list (.list (.int .i64))) a2]) = spec_l8Alg.B k (fun x1 x5 x2_0 x2_1 => R spec_l8Alg.S4 (spec_l8Alg.m4 x1 x5 x2_0 x2_1)) (fun x1 x5 x6 x2_0 x2_1 => R spec_l8Alg.S9 (spec_l8Alg.m9 x1 x5 x6 x2_0 x2_1)) a0 a1 a2 := by kernel_rfl
theorem spec_l8Alg.eok (k : Nat) : EOk Tryz.prog (spec_l8Alg.E k) Tryz.f32 :=
  ⟨Tryz.func32, Tryz.ntmps32, by kernel_rfl, tab_ok, mixed, cuts_of (by kernel_rfl), Tab.ok (.cons (spec_l1In.ok) (by kernel_rfl) .nil), by kernel_rfl⟩
theorem spec_l8Alg.ff (k : Nat) : ∀ n : Nat, ((fun x1 x5 x2_0 x2_1 => FF (spec_l8Alg.E k) n spec_l8Alg.S4 (spec_l8Alg.m4 x1 x5 x2_0 x2_1)), (fun x1 x5 x6 x2_0 x2_1 => FF (spec_l8Alg.E k) n spec_l8Alg.S9 (spec_l8Alg.m9 x1 x5 x6 x2_0 x2_1))) = spec_l8Alg.bs k n
  | 0 => rfl
  | n + 1 => by
    show ((fun x1 x5 x2_0 x2_1 => FF (spec_l8Alg.E k) (n + 1) spec_l8Alg.S4 (spec_l8Alg.m4 x1 x5 x2_0 x2_1)), (fun x1 x5 x6 x2_0 x2_1 => FF (spec_l8Alg.E k) (n + 1) spec_l8Alg.S9 (spec_l8Alg.m9 x1 x5 x6 x2_0 x2_1))) = (spec_l8Alg.B4 k ((spec_l8Alg.bs k n).1) ((spec_l8Alg.bs k n).2), spec_l8Alg.B9 k ((spec_l8Alg.bs k n).1) ((spec_l8Alg.bs k n).2))
    rw [← spec_l8Alg.ff k n]
    exact (Prod.ext (funext fun x1 => funext fun x5 => funext fun x2_0 => funext fun x2_1 => by dsimp only; exact (FF_succ ..).trans (spec_l8Alg.h4 k (fun t s => FF (spec_l8Alg.E k) n t s) x1 x5 x2_0 x2_1)) (funext fun x1 => funext fun x5 => funext fun x6 => funext fun x2_0 => funext fun x2_1 => by dsimp only; exact (FF_succ ..).trans (spec_l8Alg.h9 k (fun t s => FF (spec_l8Alg.E k) n t s) x1 x5 x6 x2_0 x2_1)))
theorem spec_l8Alg.run (k : Nat) (a0 : List (List Int)) (a1 : List (List Int)) (a2 : List (List Int)): FF (spec_l8Alg.E k) (k + 1) [.code (bodyOf Tryz.f32)] (stA (spec_l8Alg.E k) [.v (.list (.list (.int .i64))) a0, .v (.list (.list (.int .i64))) a1, .v (.list (.list (.int .i64))) a2]) = spec_l8Alg.f k a0 a1 a2 :=
  (FF_succ ..).trans ((spec_l8Alg.h k (fun t s => FF (spec_l8Alg.E k) k t s) a0 a1 a2).trans (by
    show _ = spec_l8Alg.B k ((spec_l8Alg.bs k k).1) ((spec_l8Alg.bs k k).2) a0 a1 a2
    rw [← spec_l8Alg.ff k k]))
theorem spec_l8Alg.ok (k : Nat) : FnOK Tryz.prog spec_l8Alg.ent spec_l8Alg.ts spec_l8Alg.rs fun a => spec_l8Alg.f k a.1 a.2.1 a.2.2 :=
  ⟨hasBody_of Tryz.func32 (by kernel_rfl), by kernel_rfl, by kernel_rfl, fun a r hr => good_of (E := (spec_l8Alg.E k)) (k := (k + 1)) (xs := encL spec_l8Alg.ts a) (spec_l8Alg.eok k) (body := (bodyOf Tryz.f32)) (by kernel_rfl) (by kernel_rfl) ((spec_l8Alg.run k a.1 a.2.1 a.2.2).trans hr)⟩

def spec_l8States.B3 (k : Nat) (r3 : List (List Int) → List Int → Int → Int → List Int → Option (List Int)) (x0 : List (List Int)) (x2 : List Int) (x8 : Int) (x9 : Int) (x7 : List Int) : Option (List Int) :=
  bif decide (x9 < (x2.length : Int)) then (if (0 : Int) ≤ x8 ∧ x8 < (x0.length : Int) then (if (0 : Int) ≤ x9 ∧ x9 < (x2.length : Int) then (if (0 : Int) ≤ x2.getD x9.toNat 0 ∧ x2.getD x9.toNat 0 < ((x0.getD x8.toNat []).length : Int) then (if x7.length + ([(x0.getD x8.toNat []).getD (x2.getD x9.toNat 0).toNat 0]).length ≤ capB then (r3 x0 x2 ((x0.getD x8.toNat []).getD (x2.getD x9.toNat 0).toNat 0) (w64 (x9 + 1)) (x7 ++ [(x0.getD x8.toNat []).getD (x2.getD x9.toNat 0).toNat 0])) else none) else none) else none) else none) else some x7
def spec_l8States.B (k : Nat) (r3 : List (List Int) → List Int → Int → Int → List Int → Option (List Int)) (a0 : List (List Int)) (a1 : Int) (a2 : List Int) : Option (List Int) :=
  r3 a0 a2 a1 0 []
def spec_l8States.bs (k : Nat) : Nat → (List (List Int) → List Int → Int → Int → List Int → Option (List Int))
  | 0 => (fun _ _ _ _ _ => none)
  | n + 1 => (spec_l8States.B3 k ((spec_l8States.bs k n)))
def spec_l8States.f (k : Nat) (a0 : List (List Int)) (a1 : Int) (a2 : List Int) : Option (List Int) := spec_l8States.B k ((spec_l8States.bs k k)) a0 a1 a2
def spec_l8States.ent : Ent := ⟨76, [.h (.list (.list (.int .i64))), .h (.int .i64), .h (.list (.int .i64))], [], .own 0 (.int .i64), [.buf (.int .i64)], 80⟩
abbrev spec_l8States.ts : List Ty := [.list (.list (.int .i64)), .int .i64, .list (.int .i64)]
abbrev spec_l8States.rs : List Ty := [.list (.int .i64)]
def spec_l8States.c3 : Cut := ⟨3, [(0, .h (.list (.list (.int .i64)))), (2, .h (.list (.int .i64))), (7, .own 0 (.int .i64)), (8, .h (.int .i64)), (9, .h (.int .i64))], [.buf (.int .i64)]⟩
noncomputable def spec_l8States.E (k : Nat) : Env :=
  ⟨tab, 33, spec_l8States.ent, spec_l8States.rs, [], ctOf [], [spec_l8States.c3], [.tmp 6]⟩
noncomputable def spec_l8States.S3 : List Item := stk (bodyOf Tryz.f76) 3
noncomputable def spec_l8States.m3 (x0 : List (List Int)) (x2 : List Int) (x8 : Int) (x9 : Int) (x7 : List Int) : St := mkS spec_l8States.c3 [.v (.list (.list (.int .i64))) x0, .v (.list (.int .i64)) x2, .v (.int .i64) x8, .v (.int .i64) x9, .v (.list (.int .i64)) x7]
theorem spec_l8States.h3 (k : Nat) (R : List Item → St → Option (PD spec_l8States.rs)) (x0 : List (List Int)) (x2 : List Int) (x8 : Int) (x9 : Int) (x7 : List Int) : run (spec_l8States.E k) R 4000 true spec_l8States.S3 (spec_l8States.m3 x0 x2 x8 x9 x7) = spec_l8States.B3 k (fun x0 x2 x8 x9 x7 => R spec_l8States.S3 (spec_l8States.m3 x0 x2 x8 x9 x7)) x0 x2 x8 x9 x7 := by kernel_rfl
theorem spec_l8States.h (k : Nat) (R : List Item → St → Option (PD spec_l8States.rs)) (a0 : List (List Int)) (a1 : Int) (a2 : List Int) : run (spec_l8States.E k) R 4000 true [.code (bodyOf Tryz.f76)] (stA (spec_l8States.E k) [.v (.list (.list (.int .i64))) a0, .v (.int .i64) a1, .v (.list (.int .i64)) a2]) = spec_l8States.B k (fun x0 x2 x8 x9 x7 => R spec_l8States.S3 (spec_l8States.m3 x0 x2 x8 x9 x7)) a0 a1 a2 := by kernel_rfl
theorem spec_l8States.eok (k : Nat) : EOk Tryz.prog (spec_l8States.E k) Tryz.f76 :=
  ⟨Tryz.func76, Tryz.ntmps76, by kernel_rfl, tab_ok, mixed, cuts_of (by kernel_rfl), Tab.ok .nil, by kernel_rfl⟩
theorem spec_l8States.ff (k : Nat) : ∀ n : Nat, (fun x0 x2 x8 x9 x7 => FF (spec_l8States.E k) n spec_l8States.S3 (spec_l8States.m3 x0 x2 x8 x9 x7)) = spec_l8States.bs k n
  | 0 => rfl
  | n + 1 => by
    show (fun x0 x2 x8 x9 x7 => FF (spec_l8States.E k) (n + 1) spec_l8States.S3 (spec_l8States.m3 x0 x2 x8 x9 x7)) = (spec_l8States.B3 k ((spec_l8States.bs k n)))
    rw [← spec_l8States.ff k n]
    exact (funext fun x0 => funext fun x2 => funext fun x8 => funext fun x9 => funext fun x7 => (FF_succ ..).trans (spec_l8States.h3 k (fun t s => FF (spec_l8States.E k) n t s) x0 x2 x8 x9 x7))
theorem spec_l8States.run (k : Nat) (a0 : List (List Int)) (a1 : Int) (a2 : List Int): FF (spec_l8States.E k) (k + 1) [.code (bodyOf Tryz.f76)] (stA (spec_l8States.E k) [.v (.list (.list (.int .i64))) a0, .v (.int .i64) a1, .v (.list (.int .i64)) a2]) = spec_l8States.f k a0 a1 a2 :=
  (FF_succ ..).trans ((spec_l8States.h k (fun t s => FF (spec_l8States.E k) k t s) a0 a1 a2).trans (by
    show _ = spec_l8States.B k ((spec_l8States.bs k k)) a0 a1 a2
    rw [← spec_l8States.ff k k]))
theorem spec_l8States.ok (k : Nat) : FnOK Tryz.prog spec_l8States.ent spec_l8States.ts spec_l8States.rs fun a => spec_l8States.f k a.1 a.2.1 a.2.2 :=
  ⟨hasBody_of Tryz.func76 (by kernel_rfl), by kernel_rfl, by kernel_rfl, fun a r hr => good_of (E := (spec_l8States.E k)) (k := (k + 1)) (xs := encL spec_l8States.ts a) (spec_l8States.eok k) (body := (bodyOf Tryz.f76)) (by kernel_rfl) (by kernel_rfl) ((spec_l8States.run k a.1 a.2.1 a.2.2).trans hr)⟩

def spec_l8Sum.B3 (k : Nat) (r3 : List Int → List Int → Int → Int → Int → List (List Int) → List (List Int) → Option (Int)) (x2 : List Int) (x3 : List Int) (x9 : Int) (x10 : Int) (x11 : Int) (x4_0 : List (List Int)) (x4_1 : List (List Int)) : Option (Int) :=
  bif decide (x11 < (x2.length : Int)) then (if (0 : Int) ≤ x10 ∧ x10 < (x4_0.length : Int) then (if (0 : Int) ≤ x11 ∧ x11 < (x3.length : Int) then (if (0 : Int) ≤ x3.getD x11.toNat 0 ∧ x3.getD x11.toNat 0 < ((x4_0.getD x10.toNat []).length : Int) then (if (0 : Int) ≤ x11 ∧ x11 < (x2.length : Int) then (if (0 : Int) ≤ x2.getD x11.toNat 0 ∧ x2.getD x11.toNat 0 < (x4_1.length : Int) then (if (0 : Int) ≤ x11 ∧ x11 < (x3.length : Int) then (if (0 : Int) ≤ x3.getD x11.toNat 0 ∧ x3.getD x11.toNat 0 < ((x4_1.getD (x2.getD x11.toNat 0).toNat []).length : Int) then (if (0 : Int) ≤ x11 ∧ x11 < (x3.length : Int) then (r3 x2 x3 (w64 ((w64 (x9 + ((x4_0.getD x10.toNat []).getD (x3.getD x11.toNat 0).toNat 0))) + ((x4_1.getD (x2.getD x11.toNat 0).toNat []).getD (x3.getD x11.toNat 0).toNat 0))) (x3.getD x11.toNat 0) (w64 (x11 + 1)) x4_0 x4_1) else none) else none) else none) else none) else none) else none) else none) else none) else some x9
def spec_l8Sum.B (k : Nat) (r3 : List Int → List Int → Int → Int → Int → List (List Int) → List (List Int) → Option (Int)) (a0 : List (List Int)) (a1 : List (List Int)) (a2 : Int) (a3 : List Int) (a4 : List Int) : Option (Int) :=
  r3 a3 a4 0 a2 0 a0 a1
def spec_l8Sum.bs (k : Nat) : Nat → (List Int → List Int → Int → Int → Int → List (List Int) → List (List Int) → Option (Int))
  | 0 => (fun _ _ _ _ _ _ _ => none)
  | n + 1 => (spec_l8Sum.B3 k ((spec_l8Sum.bs k n)))
def spec_l8Sum.f (k : Nat) (a0 : List (List Int)) (a1 : List (List Int)) (a2 : Int) (a3 : List Int) (a4 : List Int) : Option (Int) := spec_l8Sum.B k ((spec_l8Sum.bs k k)) a0 a1 a2 a3 a4
def spec_l8Sum.ent : Ent := ⟨75, [.agg [.h (.list (.list (.int .i64))), .h (.list (.list (.int .i64)))], .h (.int .i64), .h (.list (.int .i64)), .h (.list (.int .i64))], [], .h (.int .i64), [], 81⟩
abbrev spec_l8Sum.ts : List Ty := [.list (.list (.int .i64)), .list (.list (.int .i64)), .int .i64, .list (.int .i64), .list (.int .i64)]
abbrev spec_l8Sum.rs : List Ty := [.int .i64]
def spec_l8Sum.c3 : Cut := ⟨3, [(2, .h (.list (.int .i64))), (3, .h (.list (.int .i64))), (4, .p 0), (9, .h (.int .i64)), (10, .h (.int .i64)), (11, .h (.int .i64))], [.box [.h (.list (.list (.int .i64))), .h (.list (.list (.int .i64)))]]⟩
noncomputable def spec_l8Sum.E (k : Nat) : Env :=
  ⟨tab, 52, spec_l8Sum.ent, spec_l8Sum.rs, [], ctOf [], [spec_l8Sum.c3], [.tmp 8]⟩
noncomputable def spec_l8Sum.S3 : List Item := stk (bodyOf Tryz.f75) 3
noncomputable def spec_l8Sum.m3 (x2 : List Int) (x3 : List Int) (x9 : Int) (x10 : Int) (x11 : Int) (x4_0 : List (List Int)) (x4_1 : List (List Int)) : St := mkS spec_l8Sum.c3 [.v (.list (.int .i64)) x2, .v (.list (.int .i64)) x3, .v (.int .i64) x9, .v (.int .i64) x10, .v (.int .i64) x11, .v (.list (.list (.int .i64))) x4_0, .v (.list (.list (.int .i64))) x4_1]
theorem spec_l8Sum.h3 (k : Nat) (R : List Item → St → Option (PD spec_l8Sum.rs)) (x2 : List Int) (x3 : List Int) (x9 : Int) (x10 : Int) (x11 : Int) (x4_0 : List (List Int)) (x4_1 : List (List Int)) : run (spec_l8Sum.E k) R 4000 true spec_l8Sum.S3 (spec_l8Sum.m3 x2 x3 x9 x10 x11 x4_0 x4_1) = spec_l8Sum.B3 k (fun x2 x3 x9 x10 x11 x4_0 x4_1 => R spec_l8Sum.S3 (spec_l8Sum.m3 x2 x3 x9 x10 x11 x4_0 x4_1)) x2 x3 x9 x10 x11 x4_0 x4_1 := by kernel_rfl
theorem spec_l8Sum.h (k : Nat) (R : List Item → St → Option (PD spec_l8Sum.rs)) (a0 : List (List Int)) (a1 : List (List Int)) (a2 : Int) (a3 : List Int) (a4 : List Int) : run (spec_l8Sum.E k) R 4000 true [.code (bodyOf Tryz.f75)] (stA (spec_l8Sum.E k) [.v (.list (.list (.int .i64))) a0, .v (.list (.list (.int .i64))) a1, .v (.int .i64) a2, .v (.list (.int .i64)) a3, .v (.list (.int .i64)) a4]) = spec_l8Sum.B k (fun x2 x3 x9 x10 x11 x4_0 x4_1 => R spec_l8Sum.S3 (spec_l8Sum.m3 x2 x3 x9 x10 x11 x4_0 x4_1)) a0 a1 a2 a3 a4 := by kernel_rfl
theorem spec_l8Sum.eok (k : Nat) : EOk Tryz.prog (spec_l8Sum.E k) Tryz.f75 :=
  ⟨Tryz.func75, Tryz.ntmps75, by kernel_rfl, tab_ok, mixed, cuts_of (by kernel_rfl), Tab.ok .nil, by kernel_rfl⟩
theorem spec_l8Sum.ff (k : Nat) : ∀ n : Nat, (fun x2 x3 x9 x10 x11 x4_0 x4_1 => FF (spec_l8Sum.E k) n spec_l8Sum.S3 (spec_l8Sum.m3 x2 x3 x9 x10 x11 x4_0 x4_1)) = spec_l8Sum.bs k n
  | 0 => rfl
  | n + 1 => by
    show (fun x2 x3 x9 x10 x11 x4_0 x4_1 => FF (spec_l8Sum.E k) (n + 1) spec_l8Sum.S3 (spec_l8Sum.m3 x2 x3 x9 x10 x11 x4_0 x4_1)) = (spec_l8Sum.B3 k ((spec_l8Sum.bs k n)))
    rw [← spec_l8Sum.ff k n]
    exact (funext fun x2 => funext fun x3 => funext fun x9 => funext fun x10 => funext fun x11 => funext fun x4_0 => funext fun x4_1 => (FF_succ ..).trans (spec_l8Sum.h3 k (fun t s => FF (spec_l8Sum.E k) n t s) x2 x3 x9 x10 x11 x4_0 x4_1))
theorem spec_l8Sum.run (k : Nat) (a0 : List (List Int)) (a1 : List (List Int)) (a2 : Int) (a3 : List Int) (a4 : List Int): FF (spec_l8Sum.E k) (k + 1) [.code (bodyOf Tryz.f75)] (stA (spec_l8Sum.E k) [.v (.list (.list (.int .i64))) a0, .v (.list (.list (.int .i64))) a1, .v (.int .i64) a2, .v (.list (.int .i64)) a3, .v (.list (.int .i64)) a4]) = spec_l8Sum.f k a0 a1 a2 a3 a4 :=
  (FF_succ ..).trans ((spec_l8Sum.h k (fun t s => FF (spec_l8Sum.E k) k t s) a0 a1 a2 a3 a4).trans (by
    show _ = spec_l8Sum.B k ((spec_l8Sum.bs k k)) a0 a1 a2 a3 a4
    rw [← spec_l8Sum.ff k k]))
theorem spec_l8Sum.ok (k : Nat) : FnOK Tryz.prog spec_l8Sum.ent spec_l8Sum.ts spec_l8Sum.rs fun a => spec_l8Sum.f k a.1 a.2.1 a.2.2.1 a.2.2.2.1 a.2.2.2.2 :=
  ⟨hasBody_of Tryz.func75 (by kernel_rfl), by kernel_rfl, by kernel_rfl, fun a r hr => good_of (E := (spec_l8Sum.E k)) (k := (k + 1)) (xs := encL spec_l8Sum.ts a) (spec_l8Sum.eok k) (body := (bodyOf Tryz.f75)) (by kernel_rfl) (by kernel_rfl) ((spec_l8Sum.run k a.1 a.2.1 a.2.2.1 a.2.2.2.1 a.2.2.2.2).trans hr)⟩

def spec_l8Cost.B (k : Nat) (a0 : List (List Int)) (a1 : List (List Int)) (a2 : List (List Int)) (a3 : Int) (a4 : List Int) : Option (Int) :=
  (spec_l8States.f k a2 a3 a4).bind fun t1 => ((spec_l8Sum.f k a0 a1 a3 a4 t1).bind fun t2 => some t2)
def spec_l8Cost.f (k : Nat) (a0 : List (List Int)) (a1 : List (List Int)) (a2 : List (List Int)) (a3 : Int) (a4 : List Int) : Option (Int) := spec_l8Cost.B k a0 a1 a2 a3 a4
def spec_l8Cost.ent : Ent := ⟨33, [.agg [.h (.list (.list (.int .i64))), .h (.list (.list (.int .i64)))], .h (.list (.list (.int .i64))), .h (.int .i64), .h (.list (.int .i64))], [], .h (.int .i64), [], 82⟩
abbrev spec_l8Cost.ts : List Ty := [.list (.list (.int .i64)), .list (.list (.int .i64)), .list (.list (.int .i64)), .int .i64, .list (.int .i64)]
abbrev spec_l8Cost.rs : List Ty := [.int .i64]
noncomputable def spec_l8Cost.E (k : Nat) : Env :=
  ⟨tab, 17, spec_l8Cost.ent, spec_l8Cost.rs, [spec_l8States.ent, spec_l8Sum.ent], ctOf [(80, mkF spec_l8States.ts spec_l8States.rs fun a => spec_l8States.f k a.1 a.2.1 a.2.2),
    (81, mkF spec_l8Sum.ts spec_l8Sum.rs fun a => spec_l8Sum.f k a.1 a.2.1 a.2.2.1 a.2.2.2.1 a.2.2.2.2)], [], [.tmp 8]⟩
theorem spec_l8Cost.h (k : Nat) (R : List Item → St → Option (PD spec_l8Cost.rs)) (a0 : List (List Int)) (a1 : List (List Int)) (a2 : List (List Int)) (a3 : Int) (a4 : List Int) : run (spec_l8Cost.E k) R 4000 true [.code (bodyOf Tryz.f33)] (stA (spec_l8Cost.E k) [.v (.list (.list (.int .i64))) a0, .v (.list (.list (.int .i64))) a1, .v (.list (.list (.int .i64))) a2, .v (.int .i64) a3, .v (.list (.int .i64)) a4]) = spec_l8Cost.B k a0 a1 a2 a3 a4 := by kernel_rfl
theorem spec_l8Cost.eok (k : Nat) : EOk Tryz.prog (spec_l8Cost.E k) Tryz.f33 :=
  ⟨Tryz.func33, Tryz.ntmps33, by kernel_rfl, tab_ok, mixed, cuts_of (by kernel_rfl), Tab.ok (.cons (spec_l8States.ok k) (by kernel_rfl) (.cons (spec_l8Sum.ok k) (by kernel_rfl) .nil)), by kernel_rfl⟩
theorem spec_l8Cost.run (k : Nat) (a0 : List (List Int)) (a1 : List (List Int)) (a2 : List (List Int)) (a3 : Int) (a4 : List Int): FF (spec_l8Cost.E k) 1 [.code (bodyOf Tryz.f33)] (stA (spec_l8Cost.E k) [.v (.list (.list (.int .i64))) a0, .v (.list (.list (.int .i64))) a1, .v (.list (.list (.int .i64))) a2, .v (.int .i64) a3, .v (.list (.int .i64)) a4]) = spec_l8Cost.f k a0 a1 a2 a3 a4 :=
  (FF_succ ..).trans (spec_l8Cost.h k (fun t s => FF (spec_l8Cost.E k) 0 t s) a0 a1 a2 a3 a4)
theorem spec_l8Cost.ok (k : Nat) : FnOK Tryz.prog spec_l8Cost.ent spec_l8Cost.ts spec_l8Cost.rs fun a => spec_l8Cost.f k a.1 a.2.1 a.2.2.1 a.2.2.2.1 a.2.2.2.2 :=
  ⟨hasBody_of Tryz.func33 (by kernel_rfl), by kernel_rfl, by kernel_rfl, fun a r hr => good_of (E := (spec_l8Cost.E k)) (k := 1) (xs := encL spec_l8Cost.ts a) (spec_l8Cost.eok k) (body := (bodyOf Tryz.f33)) (by kernel_rfl) (by kernel_rfl) ((spec_l8Cost.run k a.1 a.2.1 a.2.2.1 a.2.2.2.1 a.2.2.2.2).trans hr)⟩

def spec_l11Sum.B3 (k : Nat) (r3 : List Int → Int → Int → Option (Int)) (x0 : List Int) (x3 : Int) (x4 : Int) : Option (Int) :=
  bif decide (x4 < (x0.length : Int)) then (if (0 : Int) ≤ x4 ∧ x4 < (x0.length : Int) then (r3 x0 (w64 (x3 + (x0.getD x4.toNat 0))) (w64 (x4 + 1))) else none) else some x3
def spec_l11Sum.B (k : Nat) (r3 : List Int → Int → Int → Option (Int)) (a0 : List Int) : Option (Int) :=
  r3 a0 0 0
def spec_l11Sum.bs (k : Nat) : Nat → (List Int → Int → Int → Option (Int))
  | 0 => (fun _ _ _ => none)
  | n + 1 => (spec_l11Sum.B3 k ((spec_l11Sum.bs k n)))
def spec_l11Sum.f (k : Nat) (a0 : List Int) : Option (Int) := spec_l11Sum.B k ((spec_l11Sum.bs k k)) a0
def spec_l11Sum.ent : Ent := ⟨35, [.h (.list (.int .i64))], [], .h (.int .i64), [], 83⟩
abbrev spec_l11Sum.ts : List Ty := [.list (.int .i64)]
abbrev spec_l11Sum.rs : List Ty := [.int .i64]
def spec_l11Sum.c3 : Cut := ⟨3, [(0, .h (.list (.int .i64))), (3, .h (.int .i64)), (4, .h (.int .i64))], []⟩
noncomputable def spec_l11Sum.E (k : Nat) : Env :=
  ⟨tab, 18, spec_l11Sum.ent, spec_l11Sum.rs, [], ctOf [], [spec_l11Sum.c3], [.tmp 2]⟩
noncomputable def spec_l11Sum.S3 : List Item := stk (bodyOf Tryz.f35) 3
noncomputable def spec_l11Sum.m3 (x0 : List Int) (x3 : Int) (x4 : Int) : St := mkS spec_l11Sum.c3 [.v (.list (.int .i64)) x0, .v (.int .i64) x3, .v (.int .i64) x4]
theorem spec_l11Sum.h3 (k : Nat) (R : List Item → St → Option (PD spec_l11Sum.rs)) (x0 : List Int) (x3 : Int) (x4 : Int) : run (spec_l11Sum.E k) R 4000 true spec_l11Sum.S3 (spec_l11Sum.m3 x0 x3 x4) = spec_l11Sum.B3 k (fun x0 x3 x4 => R spec_l11Sum.S3 (spec_l11Sum.m3 x0 x3 x4)) x0 x3 x4 := by kernel_rfl
theorem spec_l11Sum.h (k : Nat) (R : List Item → St → Option (PD spec_l11Sum.rs)) (a0 : List Int) : run (spec_l11Sum.E k) R 4000 true [.code (bodyOf Tryz.f35)] (stA (spec_l11Sum.E k) [.v (.list (.int .i64)) a0]) = spec_l11Sum.B k (fun x0 x3 x4 => R spec_l11Sum.S3 (spec_l11Sum.m3 x0 x3 x4)) a0 := by kernel_rfl
theorem spec_l11Sum.eok (k : Nat) : EOk Tryz.prog (spec_l11Sum.E k) Tryz.f35 :=
  ⟨Tryz.func35, Tryz.ntmps35, by kernel_rfl, tab_ok, mixed, cuts_of (by kernel_rfl), Tab.ok .nil, by kernel_rfl⟩
theorem spec_l11Sum.ff (k : Nat) : ∀ n : Nat, (fun x0 x3 x4 => FF (spec_l11Sum.E k) n spec_l11Sum.S3 (spec_l11Sum.m3 x0 x3 x4)) = spec_l11Sum.bs k n
  | 0 => rfl
  | n + 1 => by
    show (fun x0 x3 x4 => FF (spec_l11Sum.E k) (n + 1) spec_l11Sum.S3 (spec_l11Sum.m3 x0 x3 x4)) = (spec_l11Sum.B3 k ((spec_l11Sum.bs k n)))
    rw [← spec_l11Sum.ff k n]
    exact (funext fun x0 => funext fun x3 => funext fun x4 => (FF_succ ..).trans (spec_l11Sum.h3 k (fun t s => FF (spec_l11Sum.E k) n t s) x0 x3 x4))
theorem spec_l11Sum.run (k : Nat) (a0 : List Int): FF (spec_l11Sum.E k) (k + 1) [.code (bodyOf Tryz.f35)] (stA (spec_l11Sum.E k) [.v (.list (.int .i64)) a0]) = spec_l11Sum.f k a0 :=
  (FF_succ ..).trans ((spec_l11Sum.h k (fun t s => FF (spec_l11Sum.E k) k t s) a0).trans (by
    show _ = spec_l11Sum.B k ((spec_l11Sum.bs k k)) a0
    rw [← spec_l11Sum.ff k k]))
theorem spec_l11Sum.ok (k : Nat) : FnOK Tryz.prog spec_l11Sum.ent spec_l11Sum.ts spec_l11Sum.rs fun a => spec_l11Sum.f k a :=
  ⟨hasBody_of Tryz.func35 (by kernel_rfl), by kernel_rfl, by kernel_rfl, fun a r hr => good_of (E := (spec_l11Sum.E k)) (k := (k + 1)) (xs := encL spec_l11Sum.ts a) (spec_l11Sum.eok k) (body := (bodyOf Tryz.f35)) (by kernel_rfl) (by kernel_rfl) ((spec_l11Sum.run k a).trans hr)⟩

def spec_l2Abs.B (a0 : Int) : Option (Int) :=
  (spec_l1Most.f a0 (w64 (0 - a0))).bind fun t1 => some t1
def spec_l2Abs.f (a0 : Int) : Option (Int) := spec_l2Abs.B a0
def spec_l2Abs.ent : Ent := ⟨78, [.h (.int .i64)], [], .h (.int .i64), [], 84⟩
abbrev spec_l2Abs.ts : List Ty := [.int .i64]
abbrev spec_l2Abs.rs : List Ty := [.int .i64]
noncomputable def spec_l2Abs.E : Env :=
  ⟨tab, 7, spec_l2Abs.ent, spec_l2Abs.rs, [spec_l1Most.ent], ctOf [(6, mkF spec_l1Most.ts spec_l1Most.rs fun a => spec_l1Most.f a.1 a.2)], [], [.tmp 2]⟩
theorem spec_l2Abs.h (R : List Item → St → Option (PD spec_l2Abs.rs)) (a0 : Int) : run (spec_l2Abs.E) R 4000 true [.code (bodyOf Tryz.f78)] (stA (spec_l2Abs.E) [.v (.int .i64) a0]) = spec_l2Abs.B a0 := by kernel_rfl
theorem spec_l2Abs.eok : EOk Tryz.prog (spec_l2Abs.E) Tryz.f78 :=
  ⟨Tryz.func78, Tryz.ntmps78, by kernel_rfl, tab_ok, mixed, cuts_of (by kernel_rfl), Tab.ok (.cons (spec_l1Most.ok) (by kernel_rfl) .nil), by kernel_rfl⟩
theorem spec_l2Abs.run (a0 : Int): FF (spec_l2Abs.E) 1 [.code (bodyOf Tryz.f78)] (stA (spec_l2Abs.E) [.v (.int .i64) a0]) = spec_l2Abs.f a0 :=
  (FF_succ ..).trans (spec_l2Abs.h (fun t s => FF (spec_l2Abs.E) 0 t s) a0)
theorem spec_l2Abs.ok : FnOK Tryz.prog spec_l2Abs.ent spec_l2Abs.ts spec_l2Abs.rs fun a => spec_l2Abs.f a :=
  ⟨hasBody_of Tryz.func78 (by kernel_rfl), by kernel_rfl, by kernel_rfl, fun a r hr => good_of (E := (spec_l2Abs.E)) (k := 1) (xs := encL spec_l2Abs.ts a) (spec_l2Abs.eok) (body := (bodyOf Tryz.f78)) (by kernel_rfl) (by kernel_rfl) ((spec_l2Abs.run a).trans hr)⟩

def spec_l2Gcd.B1 (k : Nat) (r1 : Int → Int → Option (Int)) (x0 : Int) (x1 : Int) : Option (Int) :=
  bif decide ((0 : Int) < x1) then (if x1 ≠ 0 then (r1 x1 (Int.tmod x0 x1)) else none) else some x0
def spec_l2Gcd.B (k : Nat) (r1 : Int → Int → Option (Int)) (a0 : Int) (a1 : Int) : Option (Int) :=
  r1 a0 a1
def spec_l2Gcd.bs (k : Nat) : Nat → (Int → Int → Option (Int))
  | 0 => (fun _ _ => none)
  | n + 1 => (spec_l2Gcd.B1 k ((spec_l2Gcd.bs k n)))
def spec_l2Gcd.f (k : Nat) (a0 : Int) (a1 : Int) : Option (Int) := spec_l2Gcd.B k ((spec_l2Gcd.bs k k)) a0 a1
def spec_l2Gcd.ent : Ent := ⟨77, [.h (.int .i64), .h (.int .i64)], [], .h (.int .i64), [], 85⟩
abbrev spec_l2Gcd.ts : List Ty := [.int .i64, .int .i64]
abbrev spec_l2Gcd.rs : List Ty := [.int .i64]
def spec_l2Gcd.c1 : Cut := ⟨1, [(0, .h (.int .i64)), (1, .h (.int .i64))], []⟩
noncomputable def spec_l2Gcd.E (k : Nat) : Env :=
  ⟨tab, 12, spec_l2Gcd.ent, spec_l2Gcd.rs, [], ctOf [], [spec_l2Gcd.c1], [.tmp 4]⟩
noncomputable def spec_l2Gcd.S1 : List Item := stk (bodyOf Tryz.f77) 1
noncomputable def spec_l2Gcd.m1 (x0 : Int) (x1 : Int) : St := mkS spec_l2Gcd.c1 [.v (.int .i64) x0, .v (.int .i64) x1]
theorem spec_l2Gcd.h1 (k : Nat) (R : List Item → St → Option (PD spec_l2Gcd.rs)) (x0 : Int) (x1 : Int) : run (spec_l2Gcd.E k) R 4000 true spec_l2Gcd.S1 (spec_l2Gcd.m1 x0 x1) = spec_l2Gcd.B1 k (fun x0 x1 => R spec_l2Gcd.S1 (spec_l2Gcd.m1 x0 x1)) x0 x1 := by kernel_rfl
theorem spec_l2Gcd.h (k : Nat) (R : List Item → St → Option (PD spec_l2Gcd.rs)) (a0 : Int) (a1 : Int) : run (spec_l2Gcd.E k) R 4000 true [.code (bodyOf Tryz.f77)] (stA (spec_l2Gcd.E k) [.v (.int .i64) a0, .v (.int .i64) a1]) = spec_l2Gcd.B k (fun x0 x1 => R spec_l2Gcd.S1 (spec_l2Gcd.m1 x0 x1)) a0 a1 := by kernel_rfl
theorem spec_l2Gcd.eok (k : Nat) : EOk Tryz.prog (spec_l2Gcd.E k) Tryz.f77 :=
  ⟨Tryz.func77, Tryz.ntmps77, by kernel_rfl, tab_ok, mixed, cuts_of (by kernel_rfl), Tab.ok .nil, by kernel_rfl⟩
theorem spec_l2Gcd.ff (k : Nat) : ∀ n : Nat, (fun x0 x1 => FF (spec_l2Gcd.E k) n spec_l2Gcd.S1 (spec_l2Gcd.m1 x0 x1)) = spec_l2Gcd.bs k n
  | 0 => rfl
  | n + 1 => by
    show (fun x0 x1 => FF (spec_l2Gcd.E k) (n + 1) spec_l2Gcd.S1 (spec_l2Gcd.m1 x0 x1)) = (spec_l2Gcd.B1 k ((spec_l2Gcd.bs k n)))
    rw [← spec_l2Gcd.ff k n]
    exact (funext fun x0 => funext fun x1 => (FF_succ ..).trans (spec_l2Gcd.h1 k (fun t s => FF (spec_l2Gcd.E k) n t s) x0 x1))
theorem spec_l2Gcd.run (k : Nat) (a0 : Int) (a1 : Int): FF (spec_l2Gcd.E k) (k + 1) [.code (bodyOf Tryz.f77)] (stA (spec_l2Gcd.E k) [.v (.int .i64) a0, .v (.int .i64) a1]) = spec_l2Gcd.f k a0 a1 :=
  (FF_succ ..).trans ((spec_l2Gcd.h k (fun t s => FF (spec_l2Gcd.E k) k t s) a0 a1).trans (by
    show _ = spec_l2Gcd.B k ((spec_l2Gcd.bs k k)) a0 a1
    rw [← spec_l2Gcd.ff k k]))
theorem spec_l2Gcd.ok (k : Nat) : FnOK Tryz.prog spec_l2Gcd.ent spec_l2Gcd.ts spec_l2Gcd.rs fun a => spec_l2Gcd.f k a.1 a.2 :=
  ⟨hasBody_of Tryz.func77 (by kernel_rfl), by kernel_rfl, by kernel_rfl, fun a r hr => good_of (E := (spec_l2Gcd.E k)) (k := (k + 1)) (xs := encL spec_l2Gcd.ts a) (spec_l2Gcd.eok k) (body := (bodyOf Tryz.f77)) (by kernel_rfl) (by kernel_rfl) ((spec_l2Gcd.run k a.1 a.2).trans hr)⟩

def spec_l2Good.B (k : Nat) (a0 : Int) (a1 : Int) : Option (Bool) :=
  (spec_l1In.f a1 1 100000).bind fun t1 => (bif t1 then ((spec_l1In.f a0 (-100000000) 100000000).bind fun t2 => (bif t2 then ((spec_l2Abs.f a0).bind fun t3 => ((spec_l2Gcd.f k t3 a1).bind fun t4 => some (decide (t4 = (1 : Int))))) else some false)) else some false)
def spec_l2Good.f (k : Nat) (a0 : Int) (a1 : Int) : Option (Bool) := spec_l2Good.B k a0 a1
def spec_l2Good.ent : Ent := ⟨79, [.agg [.h (.int .i64), .h (.int .i64)]], [], .h (.bool), [], 86⟩
abbrev spec_l2Good.ts : List Ty := [.int .i64, .int .i64]
abbrev spec_l2Good.rs : List Ty := [.bool]
noncomputable def spec_l2Good.E (k : Nat) : Env :=
  ⟨tab, 20, spec_l2Good.ent, spec_l2Good.rs, [spec_l1In.ent, spec_l2Abs.ent, spec_l2Gcd.ent], ctOf [(10, mkF spec_l1In.ts spec_l1In.rs fun a => spec_l1In.f a.1 a.2.1 a.2.2),
    (84, mkF spec_l2Abs.ts spec_l2Abs.rs fun a => spec_l2Abs.f a),
    (85, mkF spec_l2Gcd.ts spec_l2Gcd.rs fun a => spec_l2Gcd.f k a.1 a.2)], [], [.tmp 2]⟩
theorem spec_l2Good.h (k : Nat) (R : List Item → St → Option (PD spec_l2Good.rs)) (a0 : Int) (a1 : Int) : run (spec_l2Good.E k) R 4000 true [.code (bodyOf Tryz.f79)] (stA (spec_l2Good.E k) [.v (.int .i64) a0, .v (.int .i64) a1]) = spec_l2Good.B k a0 a1 := by kernel_rfl
theorem spec_l2Good.eok (k : Nat) : EOk Tryz.prog (spec_l2Good.E k) Tryz.f79 :=
  ⟨Tryz.func79, Tryz.ntmps79, by kernel_rfl, tab_ok, mixed, cuts_of (by kernel_rfl), Tab.ok (.cons (spec_l1In.ok) (by kernel_rfl) (.cons (spec_l2Abs.ok) (by kernel_rfl) (.cons (spec_l2Gcd.ok k) (by kernel_rfl) .nil))), by kernel_rfl⟩
theorem spec_l2Good.run (k : Nat) (a0 : Int) (a1 : Int): FF (spec_l2Good.E k) 1 [.code (bodyOf Tryz.f79)] (stA (spec_l2Good.E k) [.v (.int .i64) a0, .v (.int .i64) a1]) = spec_l2Good.f k a0 a1 :=
  (FF_succ ..).trans (spec_l2Good.h k (fun t s => FF (spec_l2Good.E k) 0 t s) a0 a1)
theorem spec_l2Good.ok (k : Nat) : FnOK Tryz.prog spec_l2Good.ent spec_l2Good.ts spec_l2Good.rs fun a => spec_l2Good.f k a.1 a.2 :=
  ⟨hasBody_of Tryz.func79 (by kernel_rfl), by kernel_rfl, by kernel_rfl, fun a r hr => good_of (E := (spec_l2Good.E k)) (k := 1) (xs := encL spec_l2Good.ts a) (spec_l2Good.eok k) (body := (bodyOf Tryz.f79)) (by kernel_rfl) (by kernel_rfl) ((spec_l2Good.run k a.1 a.2).trans hr)⟩

def spec_l2Make.B (k : Nat) (a0 : Int) (a1 : Int) : Option (Int × Int × Bool) :=
  (spec_l2Abs.f a0).bind fun t1 => ((spec_l2Gcd.f k t1 a1).bind fun t2 => (if t2 ≠ 0 then (if t2 ≠ 0 then ((spec_l2Good.f k (w64 (Int.tdiv a0 t2)) (w64 (Int.tdiv a1 t2))).bind fun t3 => (bif !t3 then some (0, 0, false) else some (w64 (Int.tdiv a0 t2), w64 (Int.tdiv a1 t2), true))) else none) else none))
def spec_l2Make.f (k : Nat) (a0 : Int) (a1 : Int) : Option (Int × Int × Bool) := spec_l2Make.B k a0 a1
def spec_l2Make.ent : Ent := ⟨34, [.h (.int .i64), .h (.int .i64)], [], .tup [.agg [.h (.int .i64), .h (.int .i64)], .h (.bool)], [], 87⟩
abbrev spec_l2Make.ts : List Ty := [.int .i64, .int .i64]
abbrev spec_l2Make.rs : List Ty := [.int .i64, .int .i64, .bool]
noncomputable def spec_l2Make.E (k : Nat) : Env :=
  ⟨tab, 24, spec_l2Make.ent, spec_l2Make.rs, [spec_l2Abs.ent, spec_l2Gcd.ent, spec_l2Good.ent], ctOf [(84, mkF spec_l2Abs.ts spec_l2Abs.rs fun a => spec_l2Abs.f a),
    (85, mkF spec_l2Gcd.ts spec_l2Gcd.rs fun a => spec_l2Gcd.f k a.1 a.2),
    (86, mkF spec_l2Good.ts spec_l2Good.rs fun a => spec_l2Good.f k a.1 a.2)], [], [.cell 4 38, .tmp 5]⟩
theorem spec_l2Make.h (k : Nat) (R : List Item → St → Option (PD spec_l2Make.rs)) (a0 : Int) (a1 : Int) : run (spec_l2Make.E k) R 4000 true [.code (bodyOf Tryz.f34)] (stA (spec_l2Make.E k) [.v (.int .i64) a0, .v (.int .i64) a1]) = spec_l2Make.B k a0 a1 := by kernel_rfl
theorem spec_l2Make.eok (k : Nat) : EOk Tryz.prog (spec_l2Make.E k) Tryz.f34 :=
  ⟨Tryz.func34, Tryz.ntmps34, by kernel_rfl, tab_ok, mixed, cuts_of (by kernel_rfl), Tab.ok (.cons (spec_l2Abs.ok) (by kernel_rfl) (.cons (spec_l2Gcd.ok k) (by kernel_rfl) (.cons (spec_l2Good.ok k) (by kernel_rfl) .nil))), by kernel_rfl⟩
theorem spec_l2Make.run (k : Nat) (a0 : Int) (a1 : Int): FF (spec_l2Make.E k) 1 [.code (bodyOf Tryz.f34)] (stA (spec_l2Make.E k) [.v (.int .i64) a0, .v (.int .i64) a1]) = spec_l2Make.f k a0 a1 :=
  (FF_succ ..).trans (spec_l2Make.h k (fun t s => FF (spec_l2Make.E k) 0 t s) a0 a1)
theorem spec_l2Make.ok (k : Nat) : FnOK Tryz.prog spec_l2Make.ent spec_l2Make.ts spec_l2Make.rs fun a => spec_l2Make.f k a.1 a.2 :=
  ⟨hasBody_of Tryz.func34 (by kernel_rfl), by kernel_rfl, by kernel_rfl, fun a r hr => good_of (E := (spec_l2Make.E k)) (k := 1) (xs := encL spec_l2Make.ts a) (spec_l2Make.eok k) (body := (bodyOf Tryz.f34)) (by kernel_rfl) (by kernel_rfl) ((spec_l2Make.run k a.1 a.2).trans hr)⟩

end
end Go.Proofs.YtobfbgmglopdhaaGreat
