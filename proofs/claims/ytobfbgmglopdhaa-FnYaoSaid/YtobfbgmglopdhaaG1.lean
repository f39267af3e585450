/- Proved: what each function that the laws reach computes (first part), for every argument at which the plain function answers. -/
import Derived.Test.YtobfbgmglopdhaaA3
import Derived.Test.YtobfbgmglopdhaaProg
set_option linter.unusedVariables false
set_option linter.unusedSimpArgs false
set_option maxRecDepth 1000000
set_option maxHeartbeats 2000000
set_option linter.unusedVariables false
namespace Go.Proofs.Ytobfbgmglopdhaa
open Go Ab
noncomputable section
def tab : TT := [
  (3, ⟨.int .i64, 1, [.v (.int .i64) (0 : Int)], false, some (.int .i64), []⟩),
  (4, ⟨.bool, 1, [.v (.bool) (false : Bool)], false, some (.bool), []⟩),
  (5, ⟨.int .u8, 1, [.v (.int .u8) (0 : Int)], false, some (.int .u8), []⟩),
  (22, ⟨.slice 5, 1, [.nsl], false, some (.list (.int .u8)), []⟩),
  (24, ⟨.slice 27, 1, [.nsl], false, some (.list (.list (.int .i64))), []⟩),
  (26, ⟨.strct [(0, 1, false), (1, 1, false)], 2, [.nsl, .nsl], true, some (.pair (.list (.list (.int .i64))) (.list (.list (.int .i64)))), []⟩),
  (27, ⟨.slice 3, 1, [.nsl], false, some (.list (.int .i64)), []⟩),
  (31, ⟨.strct [(0, 1, false), (1, 1, false)], 2, [.v (.int .i64) (0 : Int), .v (.int .i64) (0 : Int)], true, some (.pair (.int .i64) (.int .i64)), [.int .i64, .int .i64]⟩),
  (35, ⟨.strct [(0, 1, false), (1, 1, false)], 2, [.nsl, .nsl], true, some (.pair (.list (.int .i64)) (.list (.list (.int .i64)))), []⟩),
  (44, ⟨.slice 24, 1, [.nsl], false, some (.list (.list (.list (.int .i64)))), []⟩),
  (46, ⟨.strct [(0, 1, false), (1, 1, false)], 2, [.nsl, .nsl], true, some (.pair (.list (.int .i64)) (.list (.list (.list (.int .i64))))), []⟩),
  (57, ⟨.int .u64, 1, [.v (.int .u64) (0 : Int)], false, some (.int .u64), []⟩),
  (59, ⟨.strct [(0, 1, false), (1, 1, false), (2, 1, false)], 3, [.nsl, .v (.int .i64) (0 : Int), .v (.int .u64) (0 : Int)], true, some (.pair (.list (.int .u8)) (.pair (.int .i64) (.int .u64))), []⟩),
  (91, ⟨.strct [(0, 1, false)], 1, [.nsl], true, some (.list (.list (.int .i64))), []⟩)]
theorem tab_ok : ttOk Try.prog tab = true := by kernel_rfl
theorem mixed : Try.prog.follows .mixedOrders = true := by kernel_rfl

def laws_vBig.B (a0 : List Int) : Option (Bool) :=
  some (decide ((65536 : Int) < (a0.length : Int)))
def laws_vBig.f (a0 : List Int) : Option (Bool) := laws_vBig.B a0
def laws_vBig.ent : Ent := ⟨6, [.h (.list (.int .u8))], [], .h (.bool), [], 0⟩
abbrev laws_vBig.ts : List Ty := [.list (.int .u8)]
abbrev laws_vBig.rs : List Ty := [.bool]
noncomputable def laws_vBig.E : Env :=
  ⟨tab, 6, laws_vBig.ent, laws_vBig.rs, [], ctOf [], [], [.tmp 2]⟩
theorem laws_vBig.h (R : List Item → St → Option (PD laws_vBig.rs)) (a0 : List Int) : run (laws_vBig.E) R 4000 true [.code (bodyOf Try.f6)] (stA (laws_vBig.E) [.v (.list (.int .u8)) a0]) = laws_vBig.B a0 := by kernel_rfl
theorem laws_vBig.eok : EOk Try.prog (laws_vBig.E) Try.f6 :=
  ⟨Try.func6, Try.ntmps6, by kernel_rfl, tab_ok, mixed, cuts_of (by kernel_rfl), Tab.ok .nil, by kernel_rfl⟩
theorem laws_vBig.run (a0 : List Int): FF (laws_vBig.E) 1 [.code (bodyOf Try.f6)] (stA (laws_vBig.E) [.v (.list (.int .u8)) a0]) = laws_vBig.f a0 :=
  (FF_succ ..).trans (laws_vBig.h (fun t s => FF (laws_vBig.E) 0 t s) a0)
theorem laws_vBig.ok : FnOK Try.prog laws_vBig.ent laws_vBig.ts laws_vBig.rs fun a => laws_vBig.f a :=
  ⟨hasBody_of Try.func6 (by kernel_rfl), by kernel_rfl, by kernel_rfl, fun a r hr => good_of (E := (laws_vBig.E)) (k := 1) (xs := encL laws_vBig.ts a) (laws_vBig.eok) (body := (bodyOf Try.f6)) (by kernel_rfl) (by kernel_rfl) ((laws_vBig.run a).trans hr)⟩

def spec_l1Cur_next.B (a0 : List Int) (a1 : Int) (a2 : Int) : Option (Int × List Int × Int × Int) :=
  bif decide (a1 < (a0.length : Int)) then (if (0 : Int) ≤ a1 ∧ a1 < (a0.length : Int) then (bif decide (w64 (a1 + 1) ≤ (a0.length : Int)) then some (w64 (a0.getD a1.toNat 0), a0, w64 (a1 + 1), IntKind.u64.wrap ((IntKind.u64.wrap ((IntKind.u64.wrap (a2 * 6364136223846793005)) + (IntKind.u64.wrap (w64 (a0.getD a1.toNat 0))))) + 462197)) else (if (0 : Int) ≤ 40 then some (w64 (IntKind.u64.wrap (BitVec.ofInt IntKind.u64.bits (Int.fdiv (IntKind.u64.wrap ((IntKind.u64.wrap ((IntKind.u64.wrap (a2 * 6364136223846793005)) + (IntKind.u64.wrap (w64 (a0.getD a1.toNat 0))))) + 462197)) (2 ^ (min 40 IntKind.u64.bits))) &&& BitVec.ofInt IntKind.u64.bits 255).toNat), a0, w64 (a1 + 1), IntKind.u64.wrap ((IntKind.u64.wrap ((IntKind.u64.wrap (a2 * 6364136223846793005)) + (IntKind.u64.wrap (w64 (a0.getD a1.toNat 0))))) + 462197)) else none)) else none) else (bif decide (w64 (a1 + 1) ≤ (a0.length : Int)) then some (0, a0, w64 (a1 + 1), IntKind.u64.wrap ((IntKind.u64.wrap ((IntKind.u64.wrap (a2 * 6364136223846793005)) + (IntKind.u64.wrap (0)))) + 462197)) else (if (0 : Int) ≤ 40 then some (w64 (IntKind.u64.wrap (BitVec.ofInt IntKind.u64.bits (Int.fdiv (IntKind.u64.wrap ((IntKind.u64.wrap ((IntKind.u64.wrap (a2 * 6364136223846793005)) + (IntKind.u64.wrap (0)))) + 462197)) (2 ^ (min 40 IntKind.u64.bits))) &&& BitVec.ofInt IntKind.u64.bits 255).toNat), a0, w64 (a1 + 1), IntKind.u64.wrap ((IntKind.u64.wrap ((IntKind.u64.wrap (a2 * 6364136223846793005)) + (IntKind.u64.wrap (0)))) + 462197)) else none))
def spec_l1Cur_next.f (a0 : List Int) (a1 : Int) (a2 : Int) : Option (Int × List Int × Int × Int) := spec_l1Cur_next.B a0 a1 a2
def spec_l1Cur_next.ent : Ent := ⟨68, [.p 0], [.box [.h (.list (.int .u8)), .h (.int .i64), .h (.int .u64)]], .h (.int .i64), [.box [.h (.list (.int .u8)), .h (.int .i64), .h (.int .u64)]], 1⟩
abbrev spec_l1Cur_next.ts : List Ty := [.list (.int .u8), .int .i64, .int .u64]
abbrev spec_l1Cur_next.rs : List Ty := [.int .i64, .list (.int .u8), .int .i64, .int .u64]
noncomputable def spec_l1Cur_next.E : Env :=
  ⟨tab, 62, spec_l1Cur_next.ent, spec_l1Cur_next.rs, [], ctOf [], [], [.tmp 2]⟩
theorem spec_l1Cur_next.h (R : List Item → St → Option (PD spec_l1Cur_next.rs)) (a0 : List Int) (a1 : Int) (a2 : Int) : run (spec_l1Cur_next.E) R 4000 true [.code (bodyOf Try.f68)] (stA (spec_l1Cur_next.E) [.v (.list (.int .u8)) a0, .v (.int .i64) a1, .v (.int .u64) a2]) = spec_l1Cur_next.B a0 a1 a2 := by kernel_rfl
theorem spec_l1Cur_next.eok : EOk Try.prog (spec_l1Cur_next.E) Try.f68 :=
  ⟨Try.func68, Try.ntmps68, by kernel_rfl, tab_ok, mixed, cuts_of (by kernel_rfl), Tab.ok .nil, by kernel_rfl⟩
theorem spec_l1Cur_next.run (a0 : List Int) (a1 : Int) (a2 : Int): FF (spec_l1Cur_next.E) 1 [.code (bodyOf Try.f68)] (stA (spec_l1Cur_next.E) [.v (.list (.int .u8)) a0, .v (.int .i64) a1, .v (.int .u64) a2]) = spec_l1Cur_next.f a0 a1 a2 :=
  (FF_succ ..).trans (spec_l1Cur_next.h (fun t s => FF (spec_l1Cur_next.E) 0 t s) a0 a1 a2)
theorem spec_l1Cur_next.ok : FnOK Try.prog spec_l1Cur_next.ent spec_l1Cur_next.ts spec_l1Cur_next.rs fun a => spec_l1Cur_next.f a.1 a.2.1 a.2.2 :=
  ⟨hasBody_of Try.func68 (by kernel_rfl), by kernel_rfl, by kernel_rfl, fun a r hr => good_of (E := (spec_l1Cur_next.E)) (k := 1) (xs := encL spec_l1Cur_next.ts a) (spec_l1Cur_next.eok) (body := (bodyOf Try.f68)) (by kernel_rfl) (by kernel_rfl) ((spec_l1Cur_next.run a.1 a.2.1 a.2.2).trans hr)⟩

def spec_l1Cur_pick.B (a0 : Int) (a1 : List Int) (a2 : Int) (a3 : Int) : Option (Int × List Int × Int × Int) :=
  bif decide (a0 ≤ (1 : Int)) then some (0, a1, a2, a3) else ((spec_l1Cur_next.f a1 a2 a3).bind fun t1 => (bif decide ((200 : Int) < a0) then ((spec_l1Cur_next.f t1.2.1 t1.2.2.1 t1.2.2.2).bind fun t2 => (if a0 ≠ 0 then some (Int.tmod (w64 ((w64 (t1.1 * 256)) + t2.1)) a0, t2.2.1, t2.2.2.1, t2.2.2.2) else none)) else (if a0 ≠ 0 then some (Int.tmod t1.1 a0, t1.2.1, t1.2.2.1, t1.2.2.2) else none)))
def spec_l1Cur_pick.f (a0 : Int) (a1 : List Int) (a2 : Int) (a3 : Int) : Option (Int × List Int × Int × Int) := spec_l1Cur_pick.B a0 a1 a2 a3
def spec_l1Cur_pick.ent : Ent := ⟨29, [.p 0, .h (.int .i64)], [.box [.h (.list (.int .u8)), .h (.int .i64), .h (.int .u64)]], .h (.int .i64), [.box [.h (.list (.int .u8)), .h (.int .i64), .h (.int .u64)]], 2⟩
abbrev spec_l1Cur_pick.ts : List Ty := [.int .i64, .list (.int .u8), .int .i64, .int .u64]
abbrev spec_l1Cur_pick.rs : List Ty := [.int .i64, .list (.int .u8), .int .i64, .int .u64]
noncomputable def spec_l1Cur_pick.E : Env :=
  ⟨tab, 20, spec_l1Cur_pick.ent, spec_l1Cur_pick.rs, [spec_l1Cur_next.ent], ctOf [(1, mkF spec_l1Cur_next.ts spec_l1Cur_next.rs fun a => spec_l1Cur_next.f a.1 a.2.1 a.2.2)], [], [.tmp 4]⟩
theorem spec_l1Cur_pick.h (R : List Item → St → Option (PD spec_l1Cur_pick.rs)) (a0 : Int) (a1 : List Int) (a2 : Int) (a3 : Int) : run (spec_l1Cur_pick.E) R 4000 true [.code (bodyOf Try.f29)] (stA (spec_l1Cur_pick.E) [.v (.int .i64) a0, .v (.list (.int .u8)) a1, .v (.int .i64) a2, .v (.int .u64) a3]) = spec_l1Cur_pick.B a0 a1 a2 a3 := by kernel_rfl
theorem spec_l1Cur_pick.eok : EOk Try.prog (spec_l1Cur_pick.E) Try.f29 :=
  ⟨Try.func29, Try.ntmps29, by kernel_rfl, tab_ok, mixed, cuts_of (by kernel_rfl), Tab.ok (.cons (spec_l1Cur_next.ok) (by kernel_rfl) .nil), by kernel_rfl⟩
theorem spec_l1Cur_pick.run (a0 : Int) (a1 : List Int) (a2 : Int) (a3 : Int): FF (spec_l1Cur_pick.E) 1 [.code (bodyOf Try.f29)] (stA (spec_l1Cur_pick.E) [.v (.int .i64) a0, .v (.list (.int .u8)) a1, .v (.int .i64) a2, .v (.int .u64) a3]) = spec_l1Cur_pick.f a0 a1 a2 a3 :=
  (FF_succ ..).trans (spec_l1Cur_pick.h (fun t s => FF (spec_l1Cur_pick.E) 0 t s) a0 a1 a2 a3)
theorem spec_l1Cur_pick.ok : FnOK Try.prog spec_l1Cur_pick.ent spec_l1Cur_pick.ts spec_l1Cur_pick.rs fun a => spec_l1Cur_pick.f a.1 a.2.1 a.2.2.1 a.2.2.2 :=
  ⟨hasBody_of Try.func29 (by kernel_rfl), by kernel_rfl, by kernel_rfl, fun a r hr => good_of (E := (spec_l1Cur_pick.E)) (k := 1) (xs := encL spec_l1Cur_pick.ts a) (spec_l1Cur_pick.eok) (body := (bodyOf Try.f29)) (by kernel_rfl) (by kernel_rfl) ((spec_l1Cur_pick.run a.1 a.2.1 a.2.2.1 a.2.2.2).trans hr)⟩

def spec_l1Cur_among.B (a0 : List Int) (a1 : List Int) (a2 : Int) (a3 : Int) : Option (Int × List Int × Int × Int) :=
  (spec_l1Cur_pick.f (a0.length : Int) a1 a2 a3).bind fun t1 => (if (0 : Int) ≤ t1.1 ∧ t1.1 < (a0.length : Int) then some (a0.getD t1.1.toNat 0, t1.2.1, t1.2.2.1, t1.2.2.2) else none)
def spec_l1Cur_among.f (a0 : List Int) (a1 : List Int) (a2 : Int) (a3 : Int) : Option (Int × List Int × Int × Int) := spec_l1Cur_among.B a0 a1 a2 a3
def spec_l1Cur_among.ent : Ent := ⟨28, [.p 0, .h (.list (.int .i64))], [.box [.h (.list (.int .u8)), .h (.int .i64), .h (.int .u64)]], .h (.int .i64), [.box [.h (.list (.int .u8)), .h (.int .i64), .h (.int .u64)]], 3⟩
abbrev spec_l1Cur_among.ts : List Ty := [.list (.int .i64), .list (.int .u8), .int .i64, .int .u64]
abbrev spec_l1Cur_among.rs : List Ty := [.int .i64, .list (.int .u8), .int .i64, .int .u64]
noncomputable def spec_l1Cur_among.E : Env :=
  ⟨tab, 12, spec_l1Cur_among.ent, spec_l1Cur_among.rs, [spec_l1Cur_pick.ent], ctOf [(2, mkF spec_l1Cur_pick.ts spec_l1Cur_pick.rs fun a => spec_l1Cur_pick.f a.1 a.2.1 a.2.2.1 a.2.2.2)], [], [.tmp 4]⟩
theorem spec_l1Cur_among.h (R : List Item → St → Option (PD spec_l1Cur_among.rs)) (a0 : List Int) (a1 : List Int) (a2 : Int) (a3 : Int) : run (spec_l1Cur_among.E) R 4000 true [.code (bodyOf Try.f28)] (stA (spec_l1Cur_among.E) [.v (.list (.int .i64)) a0, .v (.list (.int .u8)) a1, .v (.int .i64) a2, .v (.int .u64) a3]) = spec_l1Cur_among.B a0 a1 a2 a3 := by kernel_rfl
theorem spec_l1Cur_among.eok : EOk Try.prog (spec_l1Cur_among.E) Try.f28 :=
  ⟨Try.func28, Try.ntmps28, by kernel_rfl, tab_ok, mixed, cuts_of (by kernel_rfl), Tab.ok (.cons (spec_l1Cur_pick.ok) (by kernel_rfl) .nil), by kernel_rfl⟩
theorem spec_l1Cur_among.run (a0 : List Int) (a1 : List Int) (a2 : Int) (a3 : Int): FF (spec_l1Cur_among.E) 1 [.code (bodyOf Try.f28)] (stA (spec_l1Cur_among.E) [.v (.list (.int .i64)) a0, .v (.list (.int .u8)) a1, .v (.int .i64) a2, .v (.int .u64) a3]) = spec_l1Cur_among.f a0 a1 a2 a3 :=
  (FF_succ ..).trans (spec_l1Cur_among.h (fun t s => FF (spec_l1Cur_among.E) 0 t s) a0 a1 a2 a3)
theorem spec_l1Cur_among.ok : FnOK Try.prog spec_l1Cur_among.ent spec_l1Cur_among.ts spec_l1Cur_among.rs fun a => spec_l1Cur_among.f a.1 a.2.1 a.2.2.1 a.2.2.2 :=
  ⟨hasBody_of Try.func28 (by kernel_rfl), by kernel_rfl, by kernel_rfl, fun a r hr => good_of (E := (spec_l1Cur_among.E)) (k := 1) (xs := encL spec_l1Cur_among.ts a) (spec_l1Cur_among.eok) (body := (bodyOf Try.f28)) (by kernel_rfl) (by kernel_rfl) ((spec_l1Cur_among.run a.1 a.2.1 a.2.2.1 a.2.2.2).trans hr)⟩

def spec_l6Uniform.B3 (k : Nat) (r3 : Int → Int → Int → List (List Int) → List (List Int) → Option (List (List Int))) (r7 : Int → Int → Int → Int → List (List Int) → List (List Int) → List Int → Option (List (List Int))) (x0 : Int) (x1 : Int) (x6 : Int) (x4_0 : List (List Int)) (x5_0 : List (List Int)) : Option (List (List Int)) :=
  bif decide (x6 < x0) then (r7 x0 x1 x6 0 x4_0 x5_0 []) else some x5_0
def spec_l6Uniform.B7 (k : Nat) (r3 : Int → Int → Int → List (List Int) → List (List Int) → Option (List (List Int))) (r7 : Int → Int → Int → Int → List (List Int) → List (List Int) → List Int → Option (List (List Int))) (x0 : Int) (x1 : Int) (x6 : Int) (x8 : Int) (x4_0 : List (List Int)) (x5_0 : List (List Int)) (x7 : List Int) : Option (List (List Int)) :=
  bif decide (x8 < x0) then (bif decide (x6 = x8) then (if x7.length + 1 ≤ capB then (r7 x0 x1 x6 (w64 (x8 + 1)) x4_0 x5_0 (x7 ++ [0])) else none) else (if x7.length + 1 ≤ capB then (r7 x0 x1 x6 (w64 (x8 + 1)) x4_0 x5_0 (x7 ++ [x1])) else none)) else (if x5_0.length + 1 ≤ capB then (r3 x0 x1 (w64 (x6 + 1)) x4_0 (x5_0 ++ [x7])) else none)
def spec_l6Uniform.B (k : Nat) (r3 : Int → Int → Int → List (List Int) → List (List Int) → Option (List (List Int))) (r7 : Int → Int → Int → Int → List (List Int) → List (List Int) → List Int → Option (List (List Int))) (a0 : Int) (a1 : Int) : Option (List (List Int)) :=
  r3 a0 a1 0 [] []
def spec_l6Uniform.bs (k : Nat) : Nat → (Int → Int → Int → List (List Int) → List (List Int) → Option (List (List Int))) × (Int → Int → Int → Int → List (List Int) → List (List Int) → List Int → Option (List (List Int)))
  | 0 => (fun _ _ _ _ _ => none, fun _ _ _ _ _ _ _ => none)
  | n + 1 => (spec_l6Uniform.B3 k ((spec_l6Uniform.bs k n).1) ((spec_l6Uniform.bs k n).2), spec_l6Uniform.B7 k ((spec_l6Uniform.bs k n).1) ((spec_l6Uniform.bs k n).2))
def spec_l6Uniform.f (k : Nat) (a0 : Int) (a1 : Int) : Option (List (List Int)) := spec_l6Uniform.B k ((spec_l6Uniform.bs k k).1) ((spec_l6Uniform.bs k k).2) a0 a1
def spec_l6Uniform.ent : Ent := ⟨64, [.h (.int .i64), .h (.int .i64)], [], .agg [.ownm 0 (.int .i64)], [.mat (.int .i64)], 4⟩
abbrev spec_l6Uniform.ts : List Ty := [.int .i64, .int .i64]
abbrev spec_l6Uniform.rs : List Ty := [.list (.list (.int .i64))]
def spec_l6Uniform.c3 : Cut := ⟨3, [(0, .h (.int .i64)), (1, .h (.int .i64)), (4, .p 0), (5, .p 2), (6, .h (.int .i64))], [.box [.ownm 1 (.int .i64)], .mat (.int .i64), .box [.ownm 3 (.int .i64)], .mat (.int .i64)]⟩
def spec_l6Uniform.c7 : Cut := ⟨7, [(0, .h (.int .i64)), (1, .h (.int .i64)), (4, .p 0), (5, .p 2), (6, .h (.int .i64)), (7, .own 4 (.int .i64)), (8, .h (.int .i64))], [.box [.ownm 1 (.int .i64)], .mat (.int .i64), .box [.ownm 3 (.int .i64)], .mat (.int .i64), .buf (.int .i64)]⟩
noncomputable def spec_l6Uniform.E (k : Nat) : Env :=
  ⟨tab, 39, spec_l6Uniform.ent, spec_l6Uniform.rs, [], ctOf [], [spec_l6Uniform.c3, spec_l6Uniform.c7], [.cell 4 91]⟩
noncomputable def spec_l6Uniform.S3 : List Item := stk (bodyOf Try.f64) 3
noncomputable def spec_l6Uniform.m3 (x0 : Int) (x1 : Int) (x6 : Int) (x4_0 : List (List Int)) (x5_0 : List (List Int)) : St := mkS spec_l6Uniform.c3 [.v (.int .i64) x0, .v (.int .i64) x1, .v (.int .i64) x6, .v (.list (.list (.int .i64))) x4_0, .v (.list (.list (.int .i64))) x5_0]
noncomputable def spec_l6Uniform.S7 : List Item := stk (bodyOf Try.f64) 7
noncomputable def spec_l6Uniform.m7 (x0 : Int) (x1 : Int) (x6 : Int) (x8 : Int) (x4_0 : List (List Int)) (x5_0 : List (List Int)) (x7 : List Int) : St := mkS spec_l6Uniform.c7 [.v (.int .i64) x0, .v (.int .i64) x1, .v (.int .i64) x6, .v (.int .i64) x8, .v (.list (.list (.int .i64))) x4_0, .v (.list (.list (.int .i64))) x5_0, .v (.list (.int .i64)) x7]
theorem spec_l6Uniform.h3 (k : Nat) (R : List Item → St → Option (PD spec_l6Uniform.rs)) (x0 : Int) (x1 : Int) (x6 : Int) (x4_0 : List (List Int)) (x5_0 : List (List Int)) : run (spec_l6Uniform.E k) R 4000 true spec_l6Uniform.S3 (spec_l6Uniform.m3 x0 x1 x6 x4_0 x5_0) = spec_l6Uniform.B3 k (fun x0 x1 x6 x4_0 x5_0 => R spec_l6Uniform.S3 (spec_l6Uniform.m3 x0 x1 x6 x4_0 x5_0)) (fun x0 x1 x6 x8 x4_0 x5_0 x7 => R spec_l6Uniform.S7 (spec_l6Uniform.m7 x0 x1 x6 x8 x4_0 x5_0 x7)) x0 x1 x6 x4_0 x5_0 := by kernel_rfl
theorem spec_l6Uniform.h7 (k : Nat) (R : List Item → St → Option (PD spec_l6Uniform.rs)) (x0 : Int) (x1 : Int) (x6 : Int) (x8 : Int) (x4_0 : List (List Int)) (x5_0 : List (List Int)) (x7 : List Int) : run (spec_l6Uniform.E k) R 4000 true spec_l6Uniform.S7 (spec_l6Uniform.m7 x0 x1 x6 x8 x4_0 x5_0 x7) = spec_l6Uniform.B7 k (fun x0 x1 x6 x4_0 x5_0 => R spec_l6Uniform.S3 (spec_l6Uniform.m3 x0 x1 x6 x4_0 x5_0)) (fun x0 x1 x6 x8 x4_0 x5_0 x7 => R spec_l6Uniform.S7 (spec_l6Uniform.m7 x0 x1 x6 x8 x4_0 x5_0 x7)) x0 x1 x6 x8 x4_0 x5_0 x7 := by kernel_rfl
theorem spec_l6Uniform.h (k : Nat) (R : List Item → St → Option (PD spec_l6Uniform.rs)) (a0 : Int) (a1 : Int) : run (spec_l6Uniform.E k) R 4000 true [.code (bodyOf Try.f64)] (stA (spec_l6Uniform.E k) [.v (.int .i64) a0, .v (.int .i64) a1]) = spec_l6Uniform.B k (fun x0 x1 x6 x4_0 x5_0 => R spec_l6Uniform.S3 (spec_l6Uniform.m3 x0 x1 x6 x4_0 x5_0)) (fun x0 x1 x6 x8 x4_0 x5_0 x7 => R spec_l6Uniform.S7 (spec_l6Uniform.m7 x0 x1 x6 x8 x4_0 x5_0 x7)) a0 a1 := by kernel_rfl
theorem spec_l6Uniform.eok (k : Nat) : EOk Try.prog (spec_l6Uniform.E k) Try.f64 :=
  ⟨Try.func64, Try.ntmps64, by kernel_rfl, tab_ok, mixed, cuts_of (by kernel_rfl), Tab.ok .nil, by kernel_rfl⟩
theorem spec_l6Uniform.ff (k : Nat) : ∀ n : Nat, ((fun x0 x1 x6 x4_0 x5_0 => FF (spec_l6Uniform.E k) n spec_l6Uniform.S3 (spec_l6Uniform.m3 x0 x1 x6 x4_0 x5_0)), (fun x0 x1 x6 x8 x4_0 x5_0 x7 => FF (spec_l6Uniform.E k) n spec_l6Uniform.S7 (spec_l6Uniform.m7 x0 x1 x6 x8 x4_0 x5_0 x7))) = spec_l6Uniform.bs k n
  | 0 => rfl
  | n + 1 => by
    show ((fun x0 x1 x6 x4_0 x5_0 => FF (spec_l6Uniform.E k) (n + 1) spec_l6Uniform.S3 (spec_l6Uniform.m3 x0 x1 x6 x4_0 x5_0)), (fun x0 x1 x6 x8 x4_0 x5_0 x7 => FF (spec_l6Uniform.E k) (n + 1) spec_l6Uniform.S7 (spec_l6Uniform.m7 x0 x1 x6 x8 x4_0 x5_0 x7))) = (spec_l6Uniform.B3 k ((spec_l6Uniform.bs k n).1) ((spec_l6Uniform.bs k n).2), spec_l6Uniform.B7 k ((spec_l6Uniform.bs k n).1) ((spec_l6Uniform.bs k n).2))
    rw [← spec_l6Uniform.ff k n]
    exact (Prod.ext (funext fun x0 => funext fun x1 => funext fun x6 => funext fun x4_0 => funext fun x5_0 => by dsimp only; exact (FF_succ ..).trans (spec_l6Uniform.h3 k (fun t s => FF (spec_l6Uniform.E k) n t s) x0 x1 x6 x4_0 x5_0)) (funext fun x0 => funext fun x1 => funext fun x6 => funext fun x8 => funext fun x4_0 => funext fun x5_0 => funext fun x7 => by dsimp only; exact (FF_succ ..).trans (spec_l6Uniform.h7 k (fun t s => FF (spec_l6Uniform.E k) n t s) x0 x1 x6 x8 x4_0 x5_0 x7)))
theorem spec_l6Uniform.run (k : Nat) (a0 : Int) (a1 : Int): FF (spec_l6Uniform.E k) (k + 1) [.code (bodyOf Try.f64)] (stA (spec_l6Uniform.E k) [.v (.int .i64) a0, .v (.int .i64) a1]) = spec_l6Uniform.f k a0 a1 :=
  (FF_succ ..).trans ((spec_l6Uniform.h k (fun t s => FF (spec_l6Uniform.E k) k t s) a0 a1).trans (by
    show _ = spec_l6Uniform.B k ((spec_l6Uniform.bs k k).1) ((spec_l6Uniform.bs k k).2) a0 a1
    rw [← spec_l6Uniform.ff k k]))
theorem spec_l6Uniform.ok (k : Nat) : FnOK Try.prog spec_l6Uniform.ent spec_l6Uniform.ts spec_l6Uniform.rs fun a => spec_l6Uniform.f k a.1 a.2 :=
  ⟨hasBody_of Try.func64 (by kernel_rfl), by kernel_rfl, by kernel_rfl, fun a r hr => good_of (E := (spec_l6Uniform.E k)) (k := (k + 1)) (xs := encL spec_l6Uniform.ts a) (spec_l6Uniform.eok k) (body := (bodyOf Try.f64)) (by kernel_rfl) (by kernel_rfl) ((spec_l6Uniform.run k a.1 a.2).trans hr)⟩

def spec_l1Cur_one.B (a0 : Int) (a1 : List Int) (a2 : Int) (a3 : Int) : Option (Bool × List Int × Int × Int) :=
  (spec_l1Cur_pick.f a0 a1 a2 a3).bind fun t1 => some (decide (t1.1 = (0 : Int)), t1.2.1, t1.2.2.1, t1.2.2.2)
def spec_l1Cur_one.f (a0 : Int) (a1 : List Int) (a2 : Int) (a3 : Int) : Option (Bool × List Int × Int × Int) := spec_l1Cur_one.B a0 a1 a2 a3
def spec_l1Cur_one.ent : Ent := ⟨26, [.p 0, .h (.int .i64)], [.box [.h (.list (.int .u8)), .h (.int .i64), .h (.int .u64)]], .h (.bool), [.box [.h (.list (.int .u8)), .h (.int .i64), .h (.int .u64)]], 5⟩
abbrev spec_l1Cur_one.ts : List Ty := [.int .i64, .list (.int .u8), .int .i64, .int .u64]
abbrev spec_l1Cur_one.rs : List Ty := [.bool, .list (.int .u8), .int .i64, .int .u64]
noncomputable def spec_l1Cur_one.E : Env :=
  ⟨tab, 9, spec_l1Cur_one.ent, spec_l1Cur_one.rs, [spec_l1Cur_pick.ent], ctOf [(2, mkF spec_l1Cur_pick.ts spec_l1Cur_pick.rs fun a => spec_l1Cur_pick.f a.1 a.2.1 a.2.2.1 a.2.2.2)], [], [.tmp 4]⟩
theorem spec_l1Cur_one.h (R : List Item → St → Option (PD spec_l1Cur_one.rs)) (a0 : Int) (a1 : List Int) (a2 : Int) (a3 : Int) : run (spec_l1Cur_one.E) R 4000 true [.code (bodyOf Try.f26)] (stA (spec_l1Cur_one.E) [.v (.int .i64) a0, .v (.list (.int .u8)) a1, .v (.int .i64) a2, .v (.int .u64) a3]) = spec_l1Cur_one.B a0 a1 a2 a3 := by kernel_rfl
theorem spec_l1Cur_one.eok : EOk Try.prog (spec_l1Cur_one.E) Try.f26 :=
  ⟨Try.func26, Try.ntmps26, by kernel_rfl, tab_ok, mixed, cuts_of (by kernel_rfl), Tab.ok (.cons (spec_l1Cur_pick.ok) (by kernel_rfl) .nil), by kernel_rfl⟩
theorem spec_l1Cur_one.run (a0 : Int) (a1 : List Int) (a2 : Int) (a3 : Int): FF (spec_l1Cur_one.E) 1 [.code (bodyOf Try.f26)] (stA (spec_l1Cur_one.E) [.v (.int .i64) a0, .v (.list (.int .u8)) a1, .v (.int .i64) a2, .v (.int .u64) a3]) = spec_l1Cur_one.f a0 a1 a2 a3 :=
  (FF_succ ..).trans (spec_l1Cur_one.h (fun t s => FF (spec_l1Cur_one.E) 0 t s) a0 a1 a2 a3)
theorem spec_l1Cur_one.ok : FnOK Try.prog spec_l1Cur_one.ent spec_l1Cur_one.ts spec_l1Cur_one.rs fun a => spec_l1Cur_one.f a.1 a.2.1 a.2.2.1 a.2.2.2 :=
  ⟨hasBody_of Try.func26 (by kernel_rfl), by kernel_rfl, by kernel_rfl, fun a r hr => good_of (E := (spec_l1Cur_one.E)) (k := 1) (xs := encL spec_l1Cur_one.ts a) (spec_l1Cur_one.eok) (body := (bodyOf Try.f26)) (by kernel_rfl) (by kernel_rfl) ((spec_l1Cur_one.run a.1 a.2.1 a.2.2.1 a.2.2.2).trans hr)⟩

def spec_l1Most.B (a0 : Int) (a1 : Int) : Option (Int) :=
  bif decide (a1 < a0) then some a0 else some a1
def spec_l1Most.f (a0 : Int) (a1 : Int) : Option (Int) := spec_l1Most.B a0 a1
def spec_l1Most.ent : Ent := ⟨79, [.h (.int .i64), .h (.int .i64)], [], .h (.int .i64), [], 6⟩
abbrev spec_l1Most.ts : List Ty := [.int .i64, .int .i64]
abbrev spec_l1Most.rs : List Ty := [.int .i64]
noncomputable def spec_l1Most.E : Env :=
  ⟨tab, 10, spec_l1Most.ent, spec_l1Most.rs, [], ctOf [], [], [.tmp 4]⟩
theorem spec_l1Most.h (R : List Item → St → Option (PD spec_l1Most.rs)) (a0 : Int) (a1 : Int) : run (spec_l1Most.E) R 4000 true [.code (bodyOf Try.f79)] (stA (spec_l1Most.E) [.v (.int .i64) a0, .v (.int .i64) a1]) = spec_l1Most.B a0 a1 := by kernel_rfl
theorem spec_l1Most.eok : EOk Try.prog (spec_l1Most.E) Try.f79 :=
  ⟨Try.func79, Try.ntmps79, by kernel_rfl, tab_ok, mixed, cuts_of (by kernel_rfl), Tab.ok .nil, by kernel_rfl⟩
theorem spec_l1Most.run (a0 : Int) (a1 : Int): FF (spec_l1Most.E) 1 [.code (bodyOf Try.f79)] (stA (spec_l1Most.E) [.v (.int .i64) a0, .v (.int .i64) a1]) = spec_l1Most.f a0 a1 :=
  (FF_succ ..).trans (spec_l1Most.h (fun t s => FF (spec_l1Most.E) 0 t s) a0 a1)
theorem spec_l1Most.ok : FnOK Try.prog spec_l1Most.ent spec_l1Most.ts spec_l1Most.rs fun a => spec_l1Most.f a.1 a.2 :=
  ⟨hasBody_of Try.func79 (by kernel_rfl), by kernel_rfl, by kernel_rfl, fun a r hr => good_of (E := (spec_l1Most.E)) (k := 1) (xs := encL spec_l1Most.ts a) (spec_l1Most.eok) (body := (bodyOf Try.f79)) (by kernel_rfl) (by kernel_rfl) ((spec_l1Most.run a.1 a.2).trans hr)⟩

def spec_l6Line.B3 (k : Nat) (r3 : List Int → Int → List (List Int) → List (List Int) → Option (List (List Int))) (r6 : List Int → Int → Int → List (List Int) → List (List Int) → Option (List (List Int))) (x0 : List Int) (x4 : Int) (x2_0 : List (List Int)) (x3_0 : List (List Int)) : Option (List (List Int)) :=
  bif decide (x4 < (x0.length : Int)) then (r6 x0 x4 0 x2_0 x3_0) else some x3_0
def spec_l6Line.B6 (k : Nat) (r3 : List Int → Int → List (List Int) → List (List Int) → Option (List (List Int))) (r6 : List Int → Int → Int → List (List Int) → List (List Int) → Option (List (List Int))) (x0 : List Int) (x4 : Int) (x5 : Int) (x2_0 : List (List Int)) (x3_0 : List (List Int)) : Option (List (List Int)) :=
  bif decide (x5 < (x0.length : Int)) then (if (0 : Int) ≤ x4 ∧ x4 < (x3_0.length : Int) then (if (0 : Int) ≤ x4 ∧ x4 < (x0.length : Int) then (if (0 : Int) ≤ x5 ∧ x5 < (x0.length : Int) then (if (0 : Int) ≤ x5 ∧ x5 < (x0.length : Int) then (if (0 : Int) ≤ x4 ∧ x4 < (x0.length : Int) then ((spec_l1Most.f (w64 ((x0.getD x4.toNat 0) - (x0.getD x5.toNat 0))) (w64 ((x0.getD x5.toNat 0) - (x0.getD x4.toNat 0)))).bind fun t2 => (if (0 : Int) ≤ x5 ∧ x5 < ((x3_0.getD x4.toNat []).length : Int) then (r6 x0 x4 (w64 (x5 + 1)) x2_0 (x3_0.set x4.toNat ((x3_0.getD x4.toNat []).set x5.toNat t2))) else none)) else none) else none) else none) else none) else none) else (r3 x0 (w64 (x4 + 1)) x2_0 x3_0)
def spec_l6Line.B (k : Nat) (r3 : List Int → Int → List (List Int) → List (List Int) → Option (List (List Int))) (r6 : List Int → Int → Int → List (List Int) → List (List Int) → Option (List (List Int))) (a0 : List Int) : Option (List (List Int)) :=
  (spec_l6Uniform.f k (a0.length : Int) 0).bind fun t1 => (r3 a0 0 [] t1)
def spec_l6Line.bs (k : Nat) : Nat → (List Int → Int → List (List Int) → List (List Int) → Option (List (List Int))) × (List Int → Int → Int → List (List Int) → List (List Int) → Option (List (List Int)))
  | 0 => (fun _ _ _ _ => none, fun _ _ _ _ _ => none)
  | n + 1 => (spec_l6Line.B3 k ((spec_l6Line.bs k n).1) ((spec_l6Line.bs k n).2), spec_l6Line.B6 k ((spec_l6Line.bs k n).1) ((spec_l6Line.bs k n).2))
def spec_l6Line.f (k : Nat) (a0 : List Int) : Option (List (List Int)) := spec_l6Line.B k ((spec_l6Line.bs k k).1) ((spec_l6Line.bs k k).2) a0
def spec_l6Line.ent : Ent := ⟨65, [.h (.list (.int .i64))], [], .agg [.ownm 0 (.int .i64)], [.mat (.int .i64)], 7⟩
abbrev spec_l6Line.ts : List Ty := [.list (.int .i64)]
abbrev spec_l6Line.rs : List Ty := [.list (.list (.int .i64))]
def spec_l6Line.c3 : Cut := ⟨3, [(0, .h (.list (.int .i64))), (2, .p 0), (3, .p 2), (4, .h (.int .i64))], [.box [.ownm 1 (.int .i64)], .mat (.int .i64), .box [.ownm 3 (.int .i64)], .mat (.int .i64)]⟩
def spec_l6Line.c6 : Cut := ⟨6, [(0, .h (.list (.int .i64))), (2, .p 0), (3, .p 2), (4, .h (.int .i64)), (5, .h (.int .i64))], [.box [.ownm 1 (.int .i64)], .mat (.int .i64), .box [.ownm 3 (.int .i64)], .mat (.int .i64)]⟩
noncomputable def spec_l6Line.E (k : Nat) : Env :=
  ⟨tab, 48, spec_l6Line.ent, spec_l6Line.rs, [spec_l6Uniform.ent, spec_l1Most.ent], ctOf [(4, mkF spec_l6Uniform.ts spec_l6Uniform.rs fun a => spec_l6Uniform.f k a.1 a.2),
    (6, mkF spec_l1Most.ts spec_l1Most.rs fun a => spec_l1Most.f a.1 a.2)], [spec_l6Line.c3, spec_l6Line.c6], [.cell 2 91]⟩
noncomputable def spec_l6Line.S3 : List Item := stk (bodyOf Try.f65) 3
noncomputable def spec_l6Line.m3 (x0 : List Int) (x4 : Int) (x2_0 : List (List Int)) (x3_0 : List (List Int)) : St := mkS spec_l6Line.c3 [.v (.list (.int .i64)) x0, .v (.int .i64) x4, .v (.list (.list (.int .i64))) x2_0, .v (.list (.list (.int .i64))) x3_0]
noncomputable def spec_l6Line.S6 : List Item := stk (bodyOf Try.f65) 6
noncomputable def spec_l6Line.m6 (x0 : List Int) (x4 : Int) (x5 : Int) (x2_0 : List (List Int)) (x3_0 : List (List Int)) : St := mkS spec_l6Line.c6 [.v (.list (.int .i64)) x0, .v (.int .i64) x4, .v (.int .i64) x5, .v (.list (.list (.int .i64))) x2_0, .v (.list (.list (.int .i64))) x3_0]
theorem spec_l6Line.h3 (k : Nat) (R : List Item → St → Option (PD spec_l6Line.rs)) (x0 : List Int) (x4 : Int) (x2_0 : List (List Int)) (x3_0 : List (List Int)) : run (spec_l6Line.E k) R 4000 true spec_l6Line.S3 (spec_l6Line.m3 x0 x4 x2_0 x3_0) = spec_l6Line.B3 k (fun x0 x4 x2_0 x3_0 => R spec_l6Line.S3 (spec_l6Line.m3 x0 x4 x2_0 x3_0)) (fun x0 x4 x5 x2_0 x3_0 => R spec_l6Line.S6 (spec_l6Line.m6 x0 x4 x5 x2_0 x3_0)) x0 x4 x2_0 x3_0 := by kernel_rfl
theorem spec_l6Line.h6 (k : Nat) (R : List Item → St → Option (PD spec_l6Line.rs)) (x0 : List Int) (x4 : Int) (x5 : Int) (x2_0 : List (List Int)) (x3_0 : List (List Int)) : run (spec_l6Line.E k) R 4000 true spec_l6Line.S6 (spec_l6Line.m6 x0 x4 x5 x2_0 x3_0) = spec_l6Line.B6 k (fun x0 x4 x2_0 x3_0 => R spec_l6Line.S3 (spec_l6Line.m3 x0 x4 x2_0 x3_0)) (fun x0 x4 x5 x2_0 x3_0 => R spec_l6Line.S6 (spec_l6Line.m6 x0 x4 x5 x2_0 x3_0)) x0 x4 x5 x2_0 x3_0 := by kernel_rfl
theorem spec_l6Line.h (k : Nat) (R : List Item → St → Option (PD spec_l6Line.rs)) (a0 : List Int) : run (spec_l6Line.E k) R 4000 true [.code (bodyOf Try.f65)] (stA (spec_l6Line.E k) [.v (.list (.int .i64)) a0]) = spec_l6Line.B k (fun x0 x4 x2_0 x3_0 => R spec_l6Line.S3 (spec_l6Line.m3 x0 x4 x2_0 x3_0)) (fun x0 x4 x5 x2_0 x3_0 => R spec_l6Line.S6 (spec_l6Line.m6 x0 x4 x5 x2_0 x3_0)) a0 := by kernel_rfl
theorem spec_l6Line.eok (k : Nat) : EOk Try.prog (spec_l6Line.E k) Try.f65 :=
  ⟨Try.func65, Try.ntmps65, by kernel_rfl, tab_ok, mixed, cuts_of (by kernel_rfl), Tab.ok (.cons (spec_l6Uniform.ok k) (by kernel_rfl) (.cons (spec_l1Most.ok) (by kernel_rfl) .nil)), by kernel_rfl⟩
theorem spec_l6Line.ff (k : Nat) : ∀ n : Nat, ((fun x0 x4 x2_0 x3_0 => FF (spec_l6Line.E k) n spec_l6Line.S3 (spec_l6Line.m3 x0 x4 x2_0 x3_0)), (fun x0 x4 x5 x2_0 x3_0 => FF (spec_l6Line.E k) n spec_l6Line.S6 (spec_l6Line.m6 x0 x4 x5 x2_0 x3_0))) = spec_l6Line.bs k n
  | 0 => rfl
  | n + 1 => by
    show ((fun x0 x4 x2_0 x3_0 => FF (spec_l6Line.E k) (n + 1) spec_l6Line.S3 (spec_l6Line.m3 x0 x4 x2_0 x3_0)), (fun x0 x4 x5 x2_0 x3_0 => FF (spec_l6Line.E k) (n + 1) spec_l6Line.S6 (spec_l6Line.m6 x0 x4 x5 x2_0 x3_0))) = (spec_l6Line.B3 k ((spec_l6Line.bs k n).1) ((spec_l6Line.bs k n).2), spec_l6Line.B6 k ((spec_l6Line.bs k n).1) ((spec_l6Line.bs k n).2))
    rw [← spec_l6Line.ff k n]
    exact (Prod.ext (funext fun x0 => funext fun x4 => funext fun x2_0 => funext fun x3_0 => by dsimp only; exact (FF_succ ..).trans (spec_l6Line.h3 k (fun t s => FF (spec_l6Line.E k) n t s) x0 x4 x2_0 x3_0)) (funext fun x0 => funext fun x4 => funext fun x5 => funext fun x2_0 => funext fun x3_0 => by dsimp only; exact (FF_succ ..).trans (spec_l6Line.h6 k (fun t s => FF (spec_l6Line.E k) n t s) x0 x4 x5 x2_0 x3_0)))
theorem spec_l6Line.run (k : Nat) (a0 : List Int): FF (spec_l6Line.E k) (k + 1) [.code (bodyOf Try.f65)] (stA (spec_l6Line.E k) [.v (.list (.int .i64)) a0]) = spec_l6Line.f k a0 :=
  (FF_succ ..).trans ((spec_l6Line.h k (fun t s => FF (spec_l6Line.E k) k t s) a0).trans (by
    show _ = spec_l6Line.B k ((spec_l6Line.bs k k).1) ((spec_l6Line.bs k k).2) a0
    rw [← spec_l6Line.ff k k]))
theorem spec_l6Line.ok (k : Nat) : FnOK Try.prog spec_l6Line.ent spec_l6Line.ts spec_l6Line.rs fun a => spec_l6Line.f k a :=
  ⟨hasBody_of Try.func65 (by kernel_rfl), by kernel_rfl, by kernel_rfl, fun a r hr => good_of (E := (spec_l6Line.E k)) (k := (k + 1)) (xs := encL spec_l6Line.ts a) (spec_l6Line.eok k) (body := (bodyOf Try.f65)) (by kernel_rfl) (by kernel_rfl) ((spec_l6Line.run k a).trans hr)⟩

def spec_l1Least.B (a0 : Int) (a1 : Int) : Option (Int) :=
  bif decide (a0 < a1) then some a0 else some a1
def spec_l1Least.f (a0 : Int) (a1 : Int) : Option (Int) := spec_l1Least.B a0 a1
def spec_l1Least.ent : Ent := ⟨98, [.h (.int .i64), .h (.int .i64)], [], .h (.int .i64), [], 8⟩
abbrev spec_l1Least.ts : List Ty := [.int .i64, .int .i64]
abbrev spec_l1Least.rs : List Ty := [.int .i64]
noncomputable def spec_l1Least.E : Env :=
  ⟨tab, 10, spec_l1Least.ent, spec_l1Least.rs, [], ctOf [], [], [.tmp 4]⟩
theorem spec_l1Least.h (R : List Item → St → Option (PD spec_l1Least.rs)) (a0 : Int) (a1 : Int) : run (spec_l1Least.E) R 4000 true [.code (bodyOf Try.f98)] (stA (spec_l1Least.E) [.v (.int .i64) a0, .v (.int .i64) a1]) = spec_l1Least.B a0 a1 := by kernel_rfl
theorem spec_l1Least.eok : EOk Try.prog (spec_l1Least.E) Try.f98 :=
  ⟨Try.func98, Try.ntmps98, by kernel_rfl, tab_ok, mixed, cuts_of (by kernel_rfl), Tab.ok .nil, by kernel_rfl⟩
theorem spec_l1Least.run (a0 : Int) (a1 : Int): FF (spec_l1Least.E) 1 [.code (bodyOf Try.f98)] (stA (spec_l1Least.E) [.v (.int .i64) a0, .v (.int .i64) a1]) = spec_l1Least.f a0 a1 :=
  (FF_succ ..).trans (spec_l1Least.h (fun t s => FF (spec_l1Least.E) 0 t s) a0 a1)
theorem spec_l1Least.ok : FnOK Try.prog spec_l1Least.ent spec_l1Least.ts spec_l1Least.rs fun a => spec_l1Least.f a.1 a.2 :=
  ⟨hasBody_of Try.func98 (by kernel_rfl), by kernel_rfl, by kernel_rfl, fun a r hr => good_of (E := (spec_l1Least.E)) (k := 1) (xs := encL spec_l1Least.ts a) (spec_l1Least.eok) (body := (bodyOf Try.f98)) (by kernel_rfl) (by kernel_rfl) ((spec_l1Least.run a.1 a.2).trans hr)⟩

def spec_l8Least.B3 (k : Nat) (r3 : List Int → Int → Int → Option (Int)) (x0 : List Int) (x3 : Int) (x4 : Int) : Option (Int) :=
  bif decide (x4 < (x0.length : Int)) then (if (0 : Int) ≤ x4 ∧ x4 < (x0.length : Int) then ((spec_l1Least.f x3 (x0.getD x4.toNat 0)).bind fun t1 => (r3 x0 t1 (w64 (x4 + 1)))) else none) else some x3
def spec_l8Least.B (k : Nat) (r3 : List Int → Int → Int → Option (Int)) (a0 : List Int) : Option (Int) :=
  if (0 : Int) ≤ 0 ∧ (0 : Int) < (a0.length : Int) then (r3 a0 (a0.getD 0 0) 1) else none
def spec_l8Least.bs (k : Nat) : Nat → (List Int → Int → Int → Option (Int))
  | 0 => (fun _ _ _ => none)
  | n + 1 => (spec_l8Least.B3 k ((spec_l8Least.bs k n)))
def spec_l8Least.f (k : Nat) (a0 : List Int) : Option (Int) := spec_l8Least.B k ((spec_l8Least.bs k k)) a0
def spec_l8Least.ent : Ent := ⟨66, [.h (.list (.int .i64))], [], .h (.int .i64), [], 9⟩
abbrev spec_l8Least.ts : List Ty := [.list (.int .i64)]
abbrev spec_l8Least.rs : List Ty := [.int .i64]
def spec_l8Least.c3 : Cut := ⟨3, [(0, .h (.list (.int .i64))), (3, .h (.int .i64)), (4, .h (.int .i64))], []⟩
noncomputable def spec_l8Least.E (k : Nat) : Env :=
  ⟨tab, 21, spec_l8Least.ent, spec_l8Least.rs, [spec_l1Least.ent], ctOf [(8, mkF spec_l1Least.ts spec_l1Least.rs fun a => spec_l1Least.f a.1 a.2)], [spec_l8Least.c3], [.tmp 2]⟩
noncomputable def spec_l8Least.S3 : List Item := stk (bodyOf Try.f66) 3
noncomputable def spec_l8Least.m3 (x0 : List Int) (x3 : Int) (x4 : Int) : St := mkS spec_l8Least.c3 [.v (.list (.int .i64)) x0, .v (.int .i64) x3, .v (.int .i64) x4]
theorem spec_l8Least.h3 (k : Nat) (R : List Item → St → Option (PD spec_l8Least.rs)) (x0 : List Int) (x3 : Int) (x4 : Int) : run (spec_l8Least.E k) R 4000 true spec_l8Least.S3 (spec_l8Least.m3 x0 x3 x4) = spec_l8Least.B3 k (fun x0 x3 x4 => R spec_l8Least.S3 (spec_l8Least.m3 x0 x3 x4)) x0 x3 x4 := by kernel_rfl
theorem spec_l8Least.h (k : Nat) (R : List Item → St → Option (PD spec_l8Least.rs)) (a0 : List Int) : run (spec_l8Least.E k) R 4000 true [.code (bodyOf Try.f66)] (stA (spec_l8Least.E k) [.v (.list (.int .i64)) a0]) = spec_l8Least.B k (fun x0 x3 x4 => R spec_l8Least.S3 (spec_l8Least.m3 x0 x3 x4)) a0 := by kernel_rfl
theorem spec_l8Least.eok (k : Nat) : EOk Try.prog (spec_l8Least.E k) Try.f66 :=
  ⟨Try.func66, Try.ntmps66, by kernel_rfl, tab_ok, mixed, cuts_of (by kernel_rfl), Tab.ok (.cons (spec_l1Least.ok) (by kernel_rfl) .nil), by kernel_rfl⟩
theorem spec_l8Least.ff (k : Nat) : ∀ n : Nat, (fun x0 x3 x4 => FF (spec_l8Least.E k) n spec_l8Least.S3 (spec_l8Least.m3 x0 x3 x4)) = spec_l8Least.bs k n
  | 0 => rfl
  | n + 1 => by
    show (fun x0 x3 x4 => FF (spec_l8Least.E k) (n + 1) spec_l8Least.S3 (spec_l8Least.m3 x0 x3 x4)) = (spec_l8Least.B3 k ((spec_l8Least.bs k n)))
    rw [← spec_l8Least.ff k n]
    exact (funext fun x0 => funext fun x3 => funext fun x4 => (FF_succ ..).trans (spec_l8Least.h3 k (fun t s => FF (spec_l8Least.E k) n t s) x0 x3 x4))
theorem spec_l8Least.run (k : Nat) (a0 : List Int): FF (spec_l8Least.E k) (k + 1) [.code (bodyOf Try.f66)] (stA (spec_l8Least.E k) [.v (.list (.int .i64)) a0]) = spec_l8Least.f k a0 :=
  (FF_succ ..).trans ((spec_l8Least.h k (fun t s => FF (spec_l8Least.E k) k t s) a0).trans (by
    show _ = spec_l8Least.B k ((spec_l8Least.bs k k)) a0
    rw [← spec_l8Least.ff k k]))
theorem spec_l8Least.ok (k : Nat) : FnOK Try.prog spec_l8Least.ent spec_l8Least.ts spec_l8Least.rs fun a => spec_l8Least.f k a :=
  ⟨hasBody_of Try.func66 (by kernel_rfl), by kernel_rfl, by kernel_rfl, fun a r hr => good_of (E := (spec_l8Least.E k)) (k := (k + 1)) (xs := encL spec_l8Least.ts a) (spec_l8Least.eok k) (body := (bodyOf Try.f66)) (by kernel_rfl) (by kernel_rfl) ((spec_l8Least.run k a).trans hr)⟩

def spec_l1In.B (a0 : Int) (a1 : Int) (a2 : Int) : Option (Bool) :=
  bif decide (a1 ≤ a0) then some (decide (a0 ≤ a2)) else some false
def spec_l1In.f (a0 : Int) (a1 : Int) (a2 : Int) : Option (Bool) := spec_l1In.B a0 a1 a2
def spec_l1In.ent : Ent := ⟨40, [.h (.int .i64), .h (.int .i64), .h (.int .i64)], [], .h (.bool), [], 10⟩
abbrev spec_l1In.ts : List Ty := [.int .i64, .int .i64, .int .i64]
abbrev spec_l1In.rs : List Ty := [.bool]
noncomputable def spec_l1In.E : Env :=
  ⟨tab, 15, spec_l1In.ent, spec_l1In.rs, [], ctOf [], [], [.tmp 6]⟩
theorem spec_l1In.h (R : List Item → St → Option (PD spec_l1In.rs)) (a0 : Int) (a1 : Int) (a2 : Int) : run (spec_l1In.E) R 4000 true [.code (bodyOf Try.f40)] (stA (spec_l1In.E) [.v (.int .i64) a0, .v (.int .i64) a1, .v (.int .i64) a2]) = spec_l1In.B a0 a1 a2 := by kernel_rfl
theorem spec_l1In.eok : EOk Try.prog (spec_l1In.E) Try.f40 :=
  ⟨Try.func40, Try.ntmps40, by kernel_rfl, tab_ok, mixed, cuts_of (by kernel_rfl), Tab.ok .nil, by kernel_rfl⟩
theorem spec_l1In.run (a0 : Int) (a1 : Int) (a2 : Int): FF (spec_l1In.E) 1 [.code (bodyOf Try.f40)] (stA (spec_l1In.E) [.v (.int .i64) a0, .v (.int .i64) a1, .v (.int .i64) a2]) = spec_l1In.f a0 a1 a2 :=
  (FF_succ ..).trans (spec_l1In.h (fun t s => FF (spec_l1In.E) 0 t s) a0 a1 a2)
theorem spec_l1In.ok : FnOK Try.prog spec_l1In.ent spec_l1In.ts spec_l1In.rs fun a => spec_l1In.f a.1 a.2.1 a.2.2 :=
  ⟨hasBody_of Try.func40 (by kernel_rfl), by kernel_rfl, by kernel_rfl, fun a r hr => good_of (E := (spec_l1In.E)) (k := 1) (xs := encL spec_l1In.ts a) (spec_l1In.eok) (body := (bodyOf Try.f40)) (by kernel_rfl) (by kernel_rfl) ((spec_l1In.run a.1 a.2.1 a.2.2).trans hr)⟩

def spec_l8Request.B3 (k : Nat) (r3 : Int → List Int → Bool → Int → Option (Bool)) (x0 : Int) (x1 : List Int) (x5 : Bool) (x6 : Int) : Option (Bool) :=
  bif decide (x6 < (x1.length : Int)) then (if (0 : Int) ≤ x6 ∧ x6 < (x1.length : Int) then ((spec_l1In.f (x1.getD x6.toNat 0) (-1) 20).bind fun t1 => (bif !t1 then some false else (bif x5 then (r3 x0 x1 true (w64 (x6 + 1))) else (if (0 : Int) ≤ x6 ∧ x6 < (x1.length : Int) then (r3 x0 x1 (decide ((0 : Int) ≤ x1.getD x6.toNat 0)) (w64 (x6 + 1))) else none)))) else none) else (bif decide ((x1.length : Int) = x0) then some x5 else some false)
def spec_l8Request.B (k : Nat) (r3 : Int → List Int → Bool → Int → Option (Bool)) (a0 : Int) (a1 : List Int) : Option (Bool) :=
  r3 a0 a1 false 0
def spec_l8Request.bs (k : Nat) : Nat → (Int → List Int → Bool → Int → Option (Bool))
  | 0 => (fun _ _ _ _ => none)
  | n + 1 => (spec_l8Request.B3 k ((spec_l8Request.bs k n)))
def spec_l8Request.f (k : Nat) (a0 : Int) (a1 : List Int) : Option (Bool) := spec_l8Request.B k ((spec_l8Request.bs k k)) a0 a1
def spec_l8Request.ent : Ent := ⟨67, [.h (.int .i64), .h (.list (.int .i64))], [], .h (.bool), [], 11⟩
abbrev spec_l8Request.ts : List Ty := [.int .i64, .list (.int .i64)]
abbrev spec_l8Request.rs : List Ty := [.bool]
def spec_l8Request.c3 : Cut := ⟨3, [(0, .h (.int .i64)), (1, .h (.list (.int .i64))), (5, .h (.bool)), (6, .h (.int .i64))], []⟩
noncomputable def spec_l8Request.E (k : Nat) : Env :=
  ⟨tab, 34, spec_l8Request.ent, spec_l8Request.rs, [spec_l1In.ent], ctOf [(10, mkF spec_l1In.ts spec_l1In.rs fun a => spec_l1In.f a.1 a.2.1 a.2.2)], [spec_l8Request.c3], [.tmp 4]⟩
noncomputable def spec_l8Request.S3 : List Item := stk (bodyOf Try.f67) 3
noncomputable def spec_l8Request.m3 (x0 : Int) (x1 : List Int) (x5 : Bool) (x6 : Int) : St := mkS spec_l8Request.c3 [.v (.int .i64) x0, .v (.list (.int .i64)) x1, .v (.bool) x5, .v (.int .i64) x6]
theorem spec_l8Request.h3 (k : Nat) (R : List Item → St → Option (PD spec_l8Request.rs)) (x0 : Int) (x1 : List Int) (x5 : Bool) (x6 : Int) : run (spec_l8Request.E k) R 4000 true spec_l8Request.S3 (spec_l8Request.m3 x0 x1 x5 x6) = spec_l8Request.B3 k (fun x0 x1 x5 x6 => R spec_l8Request.S3 (spec_l8Request.m3 x0 x1 x5 x6)) x0 x1 x5 x6 := by kernel_rfl
theorem spec_l8Request.h (k : Nat) (R : List Item → St → Option (PD spec_l8Request.rs)) (a0 : Int) (a1 : List Int) : run (spec_l8Request.E k) R 4000 true [.code (bodyOf Try.f67)] (stA (spec_l8Request.E k) [.v (.int .i64) a0, .v (.list (.int .i64)) a1]) = spec_l8Request.B k (fun x0 x1 x5 x6 => R spec_l8Request.S3 (spec_l8Request.m3 x0 x1 x5 x6)) a0 a1 := by kernel_rfl
theorem spec_l8Request.eok (k : Nat) : EOk Try.prog (spec_l8Request.E k) Try.f67 :=
  ⟨Try.func67, Try.ntmps67, by kernel_rfl, tab_ok, mixed, cuts_of (by kernel_rfl), Tab.ok (.cons (spec_l1In.ok) (by kernel_rfl) .nil), by kernel_rfl⟩
theorem spec_l8Request.ff (k : Nat) : ∀ n : Nat, (fun x0 x1 x5 x6 => FF (spec_l8Request.E k) n spec_l8Request.S3 (spec_l8Request.m3 x0 x1 x5 x6)) = spec_l8Request.bs k n
  | 0 => rfl
  | n + 1 => by
    show (fun x0 x1 x5 x6 => FF (spec_l8Request.E k) (n + 1) spec_l8Request.S3 (spec_l8Request.m3 x0 x1 x5 x6)) = (spec_l8Request.B3 k ((spec_l8Request.bs k n)))
    rw [← spec_l8Request.ff k n]
    exact (funext fun x0 => funext fun x1 => funext fun x5 => funext fun x6 => (FF_succ ..).trans (spec_l8Request.h3 k (fun t s => FF (spec_l8Request.E k) n t s) x0 x1 x5 x6))
theorem spec_l8Request.run (k : Nat) (a0 : Int) (a1 : List Int): FF (spec_l8Request.E k) (k + 1) [.code (bodyOf Try.f67)] (stA (spec_l8Request.E k) [.v (.int .i64) a0, .v (.list (.int .i64)) a1]) = spec_l8Request.f k a0 a1 :=
  (FF_succ ..).trans ((spec_l8Request.h k (fun t s => FF (spec_l8Request.E k) k t s) a0 a1).trans (by
    show _ = spec_l8Request.B k ((spec_l8Request.bs k k)) a0 a1
    rw [← spec_l8Request.ff k k]))
theorem spec_l8Request.ok (k : Nat) : FnOK Try.prog spec_l8Request.ent spec_l8Request.ts spec_l8Request.rs fun a => spec_l8Request.f k a.1 a.2 :=
  ⟨hasBody_of Try.func67 (by kernel_rfl), by kernel_rfl, by kernel_rfl, fun a r hr => good_of (E := (spec_l8Request.E k)) (k := (k + 1)) (xs := encL spec_l8Request.ts a) (spec_l8Request.eok k) (body := (bodyOf Try.f67)) (by kernel_rfl) (by kernel_rfl) ((spec_l8Request.run k a.1 a.2).trans hr)⟩

def spec_l1Cur_problem.B7 (k : Nat) (r7 : Int → Int → List Int → Int → Int → List (List Int) → List (List Int) → List (List Int) → List (List Int) → Option (List (List Int) × List Int × Int × Int × List (List Int))) (r11 : Int → Int → Int → List Int → Int → Int → List (List Int) → List (List Int) → List (List Int) → List (List Int) → List Int → Option (List (List Int) × List Int × Int × Int × List (List Int))) (r25 : Int → Int → Int → List Int → Int → Int → List (List Int) → List (List Int) → List (List Int) → List (List Int) → Option (List (List Int) × List Int × Int × Int × List (List Int))) (x3 : Int) (x6 : Int) (x0_0 : List Int) (x0_1 : Int) (x0_2 : Int) (x2_0 : List (List Int)) (x2_1 : List (List Int)) (x5_0 : List (List Int)) (x5_1 : List (List Int)) : Option (List (List Int) × List Int × Int × Int × List (List Int)) :=
  bif decide ((0 : Int) < x6) then (r11 x3 x6 0 x0_0 x0_1 x0_2 x2_0 x2_1 x5_0 x5_1 []) else ((spec_l1Cur_pick.f (x5_1.length : Int) x0_0 x0_1 x0_2).bind fun t11 => ((spec_l1Cur_pick.f 32 t11.2.1 t11.2.2.1 t11.2.2.2).bind fun t12 => (bif decide (t12.1 = (0 : Int)) then (if (0 : Int) ≤ t11.1 ∧ t11.1 < (x5_1.length : Int) then ((spec_l1Cur_among.f [(-2), 20, 21] t12.2.1 t12.2.2.1 t12.2.2.2).bind fun t13 => (if (0 : Int) ≤ 0 ∧ (0 : Int) < ((x5_1.getD t11.1.toNat []).length : Int) then some (x5_1.set t11.1.toNat ((x5_1.getD t11.1.toNat []).set 0 t13.1), t13.2.1, t13.2.2.1, t13.2.2.2, x5_0) else none)) else none) else (bif decide (t12.1 = (1 : Int)) then (if (0 : Int) ≤ t11.1 ∧ t11.1 < (x5_1.length : Int) then (if (x5_1.getD t11.1.toNat []).length + 1 ≤ capB then (if (0 : Int) ≤ t11.1 ∧ t11.1 < (x5_1.length : Int) then (if t11.1.toNat = t11.1.toNat then some (x5_1.set t11.1.toNat ((x5_1.getD t11.1.toNat []) ++ [0]), t12.2.1, t12.2.2.1, t12.2.2.2, x5_0) else none) else none) else none) else none) else (bif decide (t12.1 = (2 : Int)) then (r25 x3 t11.1 0 t12.2.1 t12.2.2.1 t12.2.2.2 x2_0 x2_1 x5_0 x5_1) else (bif decide (t12.1 = (3 : Int)) then (if (0 : Int) ≤ 0 ∧ (0 : Int) < (x5_0.length : Int) then ((spec_l1Cur_among.f [0, 99, (-1)] t12.2.1 t12.2.2.1 t12.2.2.2).bind fun t14 => (if (0 : Int) ≤ w64 (x3 - 1) ∧ w64 (x3 - 1) < ((x5_0.getD 0 []).length : Int) then some (x5_1, t14.2.1, t14.2.2.1, t14.2.2.2, x5_0.set 0 ((x5_0.getD 0 []).set ((w64 (x3 - 1)).toNat) t14.1)) else none)) else none) else (bif decide (t12.1 = (4 : Int)) then (if x5_1.length + x5_1.length ≤ capB then (if (x5_1 ++ x5_1).length + x5_1.length ≤ capB then (if ((x5_1 ++ x5_1) ++ x5_1).length + x5_1.length ≤ capB then some (((x5_1 ++ x5_1) ++ x5_1) ++ x5_1, t12.2.1, t12.2.2.1, t12.2.2.2, x5_0) else none) else none) else none) else (bif decide (t12.1 = (5 : Int)) then ((spec_l6Uniform.f k 5 1).bind fun t15 => some (x5_1, t12.2.1, t12.2.2.1, t12.2.2.2, t15)) else some (x5_1, t12.2.1, t12.2.2.1, t12.2.2.2, x5_0)))))))))
def spec_l1Cur_problem.B11 (k : Nat) (r7 : Int → Int → List Int → Int → Int → List (List Int) → List (List Int) → List (List Int) → List (List Int) → Option (List (List Int) × List Int × Int × Int × List (List Int))) (r11 : Int → Int → Int → List Int → Int → Int → List (List Int) → List (List Int) → List (List Int) → List (List Int) → List Int → Option (List (List Int) × List Int × Int × Int × List (List Int))) (r25 : Int → Int → Int → List Int → Int → Int → List (List Int) → List (List Int) → List (List Int) → List (List Int) → Option (List (List Int) × List Int × Int × Int × List (List Int))) (x3 : Int) (x6 : Int) (x8 : Int) (x0_0 : List Int) (x0_1 : Int) (x0_2 : Int) (x2_0 : List (List Int)) (x2_1 : List (List Int)) (x5_0 : List (List Int)) (x5_1 : List (List Int)) (x7 : List Int) : Option (List (List Int) × List Int × Int × Int × List (List Int)) :=
  bif decide (x8 < x3) then ((spec_l1Cur_among.f [0, 0, 1, 2, 3, (-1), 5] x0_0 x0_1 x0_2).bind fun t16 => (if x7.length + 1 ≤ capB then (r11 x3 x6 (w64 (x8 + 1)) t16.2.1 t16.2.2.1 t16.2.2.2 x2_0 x2_1 x5_0 x5_1 (x7 ++ [t16.1])) else none)) else ((spec_l8Least.f k x7).bind fun t17 => (bif decide (t17 < (0 : Int)) then ((spec_l1Cur_one.f 3 x0_0 x0_1 x0_2).bind fun t18 => (bif t18.1 then ((spec_l1Cur_pick.f x3 t18.2.1 t18.2.2.1 t18.2.2.2).bind fun t19 => (if (0 : Int) ≤ t19.1 ∧ t19.1 < (x7.length : Int) then (if x5_1.length + 1 ≤ capB then (r7 x3 (w64 (x6 - 1)) t19.2.1 t19.2.2.1 t19.2.2.2 x2_0 x2_1 x5_0 (x5_1 ++ [x7.set t19.1.toNat 0])) else none) else none)) else ((spec_l8Request.f k x3 x7).bind fun t20 => (bif !t20 then ((spec_l1Cur_pick.f x3 t18.2.1 t18.2.2.1 t18.2.2.2).bind fun t21 => (if (0 : Int) ≤ t21.1 ∧ t21.1 < (x7.length : Int) then (if x5_1.length + 1 ≤ capB then (r7 x3 (w64 (x6 - 1)) t21.2.1 t21.2.2.1 t21.2.2.2 x2_0 x2_1 x5_0 (x5_1 ++ [x7.set t21.1.toNat 0])) else none) else none)) else (if x5_1.length + 1 ≤ capB then (r7 x3 (w64 (x6 - 1)) t18.2.1 t18.2.2.1 t18.2.2.2 x2_0 x2_1 x5_0 (x5_1 ++ [x7])) else none))))) else ((spec_l8Request.f k x3 x7).bind fun t22 => (bif !t22 then ((spec_l1Cur_pick.f x3 x0_0 x0_1 x0_2).bind fun t23 => (if (0 : Int) ≤ t23.1 ∧ t23.1 < (x7.length : Int) then (if x5_1.length + 1 ≤ capB then (r7 x3 (w64 (x6 - 1)) t23.2.1 t23.2.2.1 t23.2.2.2 x2_0 x2_1 x5_0 (x5_1 ++ [x7.set t23.1.toNat 0])) else none) else none)) else (if x5_1.length + 1 ≤ capB then (r7 x3 (w64 (x6 - 1)) x0_0 x0_1 x0_2 x2_0 x2_1 x5_0 (x5_1 ++ [x7])) else none)))))
def spec_l1Cur_problem.B25 (k : Nat) (r7 : Int → Int → List Int → Int → Int → List (List Int) → List (List Int) → List (List Int) → List (List Int) → Option (List (List Int) × List Int × Int × Int × List (List Int))) (r11 : Int → Int → Int → List Int → Int → Int → List (List Int) → List (List Int) → List (List Int) → List (List Int) → List Int → Option (List (List Int) × List Int × Int × Int × List (List Int))) (r25 : Int → Int → Int → List Int → Int → Int → List (List Int) → List (List Int) → List (List Int) → List (List Int) → Option (List (List Int) × List Int × Int × Int × List (List Int))) (x3 : Int) (x9 : Int) (x10 : Int) (o0_0 : List Int) (o0_1 : Int) (o0_2 : Int) (x2_0 : List (List Int)) (x2_1 : List (List Int)) (x5_0 : List (List Int)) (x5_1 : List (List Int)) : Option (List (List Int) × List Int × Int × Int × List (List Int)) :=
  bif decide (x10 < x3) then (if (0 : Int) ≤ x9 ∧ x9 < (x5_1.length : Int) then (if (0 : Int) ≤ x10 ∧ x10 < ((x5_1.getD x9.toNat []).length : Int) then (r25 x3 x9 (w64 (x10 + 1)) o0_0 o0_1 o0_2 x2_0 x2_1 x5_0 (x5_1.set x9.toNat ((x5_1.getD x9.toNat []).set x10.toNat (-1)))) else none) else none) else some (x5_1, o0_0, o0_1, o0_2, x5_0)
def spec_l1Cur_problem.B (k : Nat) (r7 : Int → Int → List Int → Int → Int → List (List Int) → List (List Int) → List (List Int) → List (List Int) → Option (List (List Int) × List Int × Int × Int × List (List Int))) (r11 : Int → Int → Int → List Int → Int → Int → List (List Int) → List (List Int) → List (List Int) → List (List Int) → List Int → Option (List (List Int) × List Int × Int × Int × List (List Int))) (r25 : Int → Int → Int → List Int → Int → Int → List (List Int) → List (List Int) → List (List Int) → List (List Int) → Option (List (List Int) × List Int × Int × Int × List (List Int))) (a0 : List Int) (a1 : Int) (a2 : Int) : Option (List (List Int) × List Int × Int × Int × List (List Int)) :=
  (spec_l1Cur_among.f [1, 2, 2, 3, 3, 4] a0 a1 a2).bind fun t1 => ((spec_l1Cur_pick.f 4 t1.2.1 t1.2.2.1 t1.2.2.2).bind fun t2 => ((spec_l6Uniform.f k t1.1 (w64 (1 + t2.1))).bind fun t3 => ((spec_l1Cur_one.f 2 t2.2.1 t2.2.2.1 t2.2.2.2).bind fun t4 => (bif t4.1 then ((spec_l1Cur_pick.f 2 t4.2.1 t4.2.2.1 t4.2.2.2).bind fun t5 => ((spec_l1Cur_pick.f 2 t5.2.1 t5.2.2.1 t5.2.2.2).bind fun t6 => ((spec_l1Cur_pick.f 3 t6.2.1 t6.2.2.1 t6.2.2.2).bind fun t7 => (if (0 : Int) ≤ 0 ∧ (0 : Int) ≤ t1.1 ∧ t1.1 ≤ (([t5.1, w64 (2 + t6.1), 5, w64 (6 + t7.1)]).length : Int) then ((spec_l6Line.f k (List.take ((t1.1 - 0).toNat) (List.drop 0 [t5.1, w64 (2 + t6.1), 5, w64 (6 + t7.1)]))).bind fun t8 => ((spec_l1Cur_among.f [1, 2, 2, 3, 4] t7.2.1 t7.2.2.1 t7.2.2.2).bind fun t9 => (r7 t1.1 t9.1 t9.2.1 t9.2.2.1 t9.2.2.2 [] [] t8 []))) else none)))) else ((spec_l1Cur_among.f [1, 2, 2, 3, 4] t4.2.1 t4.2.2.1 t4.2.2.2).bind fun t10 => (r7 t1.1 t10.1 t10.2.1 t10.2.2.1 t10.2.2.2 [] [] t3 []))))))
def spec_l1Cur_problem.bs (k : Nat) : Nat → (Int → Int → List Int → Int → Int → List (List Int) → List (List Int) → List (List Int) → List (List Int) → Option (List (List Int) × List Int × Int × Int × List (List Int))) × (Int → Int → Int → List Int → Int → Int → List (List Int) → List (List Int) → List (List Int) → List (List Int) → List Int → Option (List (List Int) × List Int × Int × Int × List (List Int))) × (Int → Int → Int → List Int → Int → Int → List (List Int) → List (List Int) → List (List Int) → List (List Int) → Option (List (List Int) × List Int × Int × Int × List (List Int)))
  | 0 => (fun _ _ _ _ _ _ _ _ _ => none, fun _ _ _ _ _ _ _ _ _ _ _ => none, fun _ _ _ _ _ _ _ _ _ _ => none)
  | n + 1 => (spec_l1Cur_problem.B7 k ((spec_l1Cur_problem.bs k n).1) ((spec_l1Cur_problem.bs k n).2.1) ((spec_l1Cur_problem.bs k n).2.2), spec_l1Cur_problem.B11 k ((spec_l1Cur_problem.bs k n).1) ((spec_l1Cur_problem.bs k n).2.1) ((spec_l1Cur_problem.bs k n).2.2), spec_l1Cur_problem.B25 k ((spec_l1Cur_problem.bs k n).1) ((spec_l1Cur_problem.bs k n).2.1) ((spec_l1Cur_problem.bs k n).2.2))
def spec_l1Cur_problem.f (k : Nat) (a0 : List Int) (a1 : Int) (a2 : Int) : Option (List (List Int) × List Int × Int × Int × List (List Int)) := spec_l1Cur_problem.B k ((spec_l1Cur_problem.bs k k).1) ((spec_l1Cur_problem.bs k k).2.1) ((spec_l1Cur_problem.bs k k).2.2) a0 a1 a2
def spec_l1Cur_problem.ent : Ent := ⟨24, [.p 0], [.box [.h (.list (.int .u8)), .h (.int .i64), .h (.int .u64)]], .agg [.ownm 1 (.int .i64), .h (.list (.list (.int .i64)))], [.box [.h (.list (.int .u8)), .h (.int .i64), .h (.int .u64)], .mat (.int .i64)], 12⟩
abbrev spec_l1Cur_problem.ts : List Ty := [.list (.int .u8), .int .i64, .int .u64]
abbrev spec_l1Cur_problem.rs : List Ty := [.list (.list (.int .i64)), .list (.int .u8), .int .i64, .int .u64, .list (.list (.int .i64))]
def spec_l1Cur_problem.c7 : Cut := ⟨7, [(0, .p 0), (2, .p 1), (3, .h (.int .i64)), (5, .p 4), (6, .h (.int .i64))], [.box [.h (.list (.int .u8)), .h (.int .i64), .h (.int .u64)], .box [.ownm 2 (.int .i64), .ownm 3 (.int .i64)], .mat (.int .i64), .mat (.int .i64), .box [.ownm 5 (.int .i64), .ownm 6 (.int .i64)], .mat (.int .i64), .mat (.int .i64)]⟩
def spec_l1Cur_problem.c11 : Cut := ⟨11, [(0, .p 0), (2, .p 1), (3, .h (.int .i64)), (5, .p 4), (6, .h (.int .i64)), (7, .own 7 (.int .i64)), (8, .h (.int .i64))], [.box [.h (.list (.int .u8)), .h (.int .i64), .h (.int .u64)], .box [.ownm 2 (.int .i64), .ownm 3 (.int .i64)], .mat (.int .i64), .mat (.int .i64), .box [.ownm 5 (.int .i64), .ownm 6 (.int .i64)], .mat (.int .i64), .mat (.int .i64), .buf (.int .i64)]⟩
def spec_l1Cur_problem.c25 : Cut := ⟨25, [(2, .p 1), (3, .h (.int .i64)), (5, .p 4), (9, .h (.int .i64)), (10, .h (.int .i64))], [.box [.h (.list (.int .u8)), .h (.int .i64), .h (.int .u64)], .box [.ownm 2 (.int .i64), .ownm 3 (.int .i64)], .mat (.int .i64), .mat (.int .i64), .box [.ownm 5 (.int .i64), .ownm 6 (.int .i64)], .mat (.int .i64), .mat (.int .i64)]⟩
noncomputable def spec_l1Cur_problem.E (k : Nat) : Env :=
  ⟨tab, 156, spec_l1Cur_problem.ent, spec_l1Cur_problem.rs, [spec_l1Cur_among.ent, spec_l1Cur_pick.ent, spec_l6Uniform.ent, spec_l1Cur_one.ent, spec_l6Line.ent, spec_l8Least.ent, spec_l8Request.ent], ctOf [(3, mkF spec_l1Cur_among.ts spec_l1Cur_among.rs fun a => spec_l1Cur_among.f a.1 a.2.1 a.2.2.1 a.2.2.2),
    (2, mkF spec_l1Cur_pick.ts spec_l1Cur_pick.rs fun a => spec_l1Cur_pick.f a.1 a.2.1 a.2.2.1 a.2.2.2),
    (4, mkF spec_l6Uniform.ts spec_l6Uniform.rs fun a => spec_l6Uniform.f k a.1 a.2),
    (5, mkF spec_l1Cur_one.ts spec_l1Cur_one.rs fun a => spec_l1Cur_one.f a.1 a.2.1 a.2.2.1 a.2.2.2),
    (7, mkF spec_l6Line.ts spec_l6Line.rs fun a => spec_l6Line.f k a),
    (9, mkF spec_l8Least.ts spec_l8Least.rs fun a => spec_l8Least.f k a),
    (11, mkF spec_l8Request.ts spec_l8Request.rs fun a => spec_l8Request.f k a.1 a.2)], [spec_l1Cur_problem.c7, spec_l1Cur_problem.c11, spec_l1Cur_problem.c25], [.cell 2 26]⟩
noncomputable def spec_l1Cur_problem.S7 : List Item := stk (bodyOf Try.f24) 7
noncomputable def spec_l1Cur_problem.m7 (x3 : Int) (x6 : Int) (x0_0 : List Int) (x0_1 : Int) (x0_2 : Int) (x2_0 : List (List Int)) (x2_1 : List (List Int)) (x5_0 : List (List Int)) (x5_1 : List (List Int)) : St := mkS spec_l1Cur_problem.c7 [.v (.int .i64) x3, .v (.int .i64) x6, .v (.list (.int .u8)) x0_0, .v (.int .i64) x0_1, .v (.int .u64) x0_2, .v (.list (.list (.int .i64))) x2_0, .v (.list (.list (.int .i64))) x2_1, .v (.list (.list (.int .i64))) x5_0, .v (.list (.list (.int .i64))) x5_1]
noncomputable def spec_l1Cur_problem.S11 : List Item := stk (bodyOf Try.f24) 11
noncomputable def spec_l1Cur_problem.m11 (x3 : Int) (x6 : Int) (x8 : Int) (x0_0 : List Int) (x0_1 : Int) (x0_2 : Int) (x2_0 : List (List Int)) (x2_1 : List (List Int)) (x5_0 : List (List Int)) (x5_1 : List (List Int)) (x7 : List Int) : St := mkS spec_l1Cur_problem.c11 [.v (.int .i64) x3, .v (.int .i64) x6, .v (.int .i64) x8, .v (.list (.int .u8)) x0_0, .v (.int .i64) x0_1, .v (.int .u64) x0_2, .v (.list (.list (.int .i64))) x2_0, .v (.list (.list (.int .i64))) x2_1, .v (.list (.list (.int .i64))) x5_0, .v (.list (.list (.int .i64))) x5_1, .v (.list (.int .i64)) x7]
noncomputable def spec_l1Cur_problem.S25 : List Item := stk (bodyOf Try.f24) 25
noncomputable def spec_l1Cur_problem.m25 (x3 : Int) (x9 : Int) (x10 : Int) (o0_0 : List Int) (o0_1 : Int) (o0_2 : Int) (x2_0 : List (List Int)) (x2_1 : List (List Int)) (x5_0 : List (List Int)) (x5_1 : List (List Int)) : St := mkS spec_l1Cur_problem.c25 [.v (.int .i64) x3, .v (.int .i64) x9, .v (.int .i64) x10, .v (.list (.int .u8)) o0_0, .v (.int .i64) o0_1, .v (.int .u64) o0_2, .v (.list (.list (.int .i64))) x2_0, .v (.list (.list (.int .i64))) x2_1, .v (.list (.list (.int .i64))) x5_0, .v (.list (.list (.int .i64))) x5_1]
theorem spec_l1Cur_problem.h7 (k : Nat) (R : List Item → St → Option (PD spec_l1Cur_problem.rs)) (x3 : Int) (x6 : Int) (x0_0 : List Int) (x0_1 : Int) (x0_2 : Int) (x2_0 : List (List Int)) (x2_1 : List (List Int)) (x5_0 : List (List Int)) (x5_1 : List (List Int)) : run (spec_l1Cur_problem.E k) R 4000 true spec_l1Cur_problem.S7 (spec_l1Cur_problem.m7 x3 x6 x0_0 x0_1 x0_2 x2_0 x2_1 x5_0 x5_1) = spec_l1Cur_problem.B7 k (fun x3 x6 x0_0 x0_1 x0_2 x2_0 x2_1 x5_0 x5_1 => R spec_l1Cur_problem.S7 (spec_l1Cur_problem.m7 x3 x6 x0_0 x0_1 x0_2 x2_0 x2_1 x5_0 x5_1)) (fun x3 x6 x8 x0_0 x0_1 x0_2 x2_0 x2_1 x5_0 x5_1 x7 => R spec_l1Cur_problem.S11 (spec_l1Cur_problem.m11 x3 x6 x8 x0_0 x0_1 x0_2 x2_0 x2_1 x5_0 x5_1 x7)) (fun x3 x9 x10 o0_0 o0_1 o0_2 x2_0 x2_1 x5_0 x5_1 => R spec_l1Cur_problem.S25 (spec_l1Cur_problem.m25 x3 x9 x10 o0_0 o0_1 o0_2 x2_0 x2_1 x5_0 x5_1)) x3 x6 x0_0 x0_1 x0_2 x2_0 x2_1 x5_0 x5_1 := by kernel_rfl
theorem spec_l1Cur_problem.h11 (k : Nat) (R : List Item → St → Option (PD spec_l1Cur_problem.rs)) (x3 : Int) (x6 : Int) (x8 : Int) (x0_0 : List Int) (x0_1 : Int) (x0_2 : Int) (x2_0 : List (List Int)) (x2_1 : List (List Int)) (x5_0 : List (List Int)) (x5_1 : List (List Int)) (x7 : List Int) : run (spec_l1Cur_problem.E k) R 4000 true spec_l1Cur_problem.S11 (spec_l1Cur_problem.m11 x3 x6 x8 x0_0 x0_1 x0_2 x2_0 x2_1 x5_0 x5_1 x7) = spec_l1Cur_problem.B11 k (fun x3 x6 x0_0 x0_1 x0_2 x2_0 x2_1 x5_0 x5_1 => R spec_l1Cur_problem.S7 (spec_l1Cur_problem.m7 x3 x6 x0_0 x0_1 x0_2 x2_0 x2_1 x5_0 x5_1)) (fun x3 x6 x8 x0_0 x0_1 x0_2 x2_0 x2_1 x5_0 x5_1 x7 => R spec_l1Cur_problem.S11 (spec_l1Cur_problem.m11 x3 x6 x8 x0_0 x0_1 x0_2 x2_0 x2_1 x5_0 x5_1 x7)) (fun x3 x9 x10 o0_0 o0_1 o0_2 x2_0 x2_1 x5_0 x5_1 => R spec_l1Cur_problem.S25 (spec_l1Cur_problem.m25 x3 x9 x10 o0_0 o0_1 o0_2 x2_0 x2_1 x5_0 x5_1)) x3 x6 x8 x0_0 x0_1 x0_2 x2_0 x2_1 x5_0 x5_1 x7 := by kernel_rfl
theorem spec_l1Cur_problem.h25 (k : Nat) (R : List Item → St → Option (PD spec_l1Cur_problem.rs)) (x3 : Int) (x9 : Int) (x10 : Int) (o0_0 : List Int) (o0_1 : Int) (o0_2 : Int) (x2_0 : List (List Int)) (x2_1 : List (List Int)) (x5_0 : List (List Int)) (x5_1 : List (List Int)) : run (spec_l1Cur_problem.E k) R 4000 true spec_l1Cur_problem.S25 (spec_l1Cur_problem.m25 x3 x9 x10 o0_0 o0_1 o0_2 x2_0 x2_1 x5_0 x5_1) = spec_l1Cur_problem.B25 k (fun x3 x6 x0_0 x0_1 x0_2 x2_0 x2_1 x5_0 x5_1 => R spec_l1Cur_problem.S7 (spec_l1Cur_problem.m7 x3 x6 x0_0 x0_1 x0_2 x2_0 x2_1 x5_0 x5_1)) (fun x3 x6 x8 x0_0 x0_1 x0_2 x2_0 x2_1 x5_0 x5_1 x7 => R spec_l1Cur_problem.S11 (spec_l1Cur_problem.m11 x3 x6 x8 x0_0 x0_1 x0_2 x2_0 x2_1 x5_0 x5_1 x7)) (fun x3 x9 x10 o0_0 o0_1 o0_2 x2_0 x2_1 x5_0 x5_1 => R spec_l1Cur_problem.S25 (spec_l1Cur_problem.m25 x3 x9 x10 o0_0 o0_1 o0_2 x2_0 x2_1 x5_0 x5_1)) x3 x9 x10 o0_0 o0_1 o0_2 x2_0 x2_1 x5_0 x5_1 := by kernel_rfl
theorem spec_l1Cur_problem.h (k : Nat) (R : List Item → St → Option (PD spec_l1Cur_problem.rs)) (a0 : List Int) (a1 : Int) (a2 : Int) : run (spec_l1Cur_problem.E k) R 4000 true [.code (bodyOf Try.f24)] (stA (spec_l1Cur_problem.E k) [.v (.list (.int .u8)) a0, .v (.int .i64) a1, .v (.int .u64) a2]) = spec_l1Cur_problem.B k (fun x3 x6 x0_0 x0_1 x0_2 x2_0 x2_1 x5_0 x5_1 => R spec_l1Cur_problem.S7 (spec_l1Cur_problem.m7 x3 x6 x0_0 x0_1 x0_2 x2_0 x2_1 x5_0 x5_1)) (fun x3 x6 x8 x0_0 x0_1 x0_2 x2_0 x2_1 x5_0 x5_1 x7 => R spec_l1Cur_problem.S11 (spec_l1Cur_problem.m11 x3 x6 x8 x0_0 x0_1 x0_2 x2_0 x2_1 x5_0 x5_1 x7)) (fun x3 x9 x10 o0_0 o0_1 o0_2 x2_0 x2_1 x5_0 x5_1 => R spec_l1Cur_problem.S25 (spec_l1Cur_problem.m25 x3 x9 x10 o0_0 o0_1 o0_2 x2_0 x2_1 x5_0 x5_1)) a0 a1 a2 := by kernel_rfl
theorem spec_l1Cur_problem.eok (k : Nat) : EOk Try.prog (spec_l1Cur_problem.E k) Try.f24 :=
  ⟨Try.func24, Try.ntmps24, by kernel_rfl, tab_ok, mixed, cuts_of (by kernel_rfl), Tab.ok (.cons (spec_l1Cur_among.ok) (by kernel_rfl) (.cons (spec_l1Cur_pick.ok) (by kernel_rfl) (.cons (spec_l6Uniform.ok k) (by kernel_rfl) (.cons (spec_l1Cur_one.ok) (by kernel_rfl) (.cons (spec_l6Line.ok k) (by kernel_rfl) (.cons (spec_l8Least.ok k) (by kernel_rfl) (.cons (spec_l8Request.ok k) (by kernel_rfl) .nil))))))), by kernel_rfl⟩
theorem spec_l1Cur_problem.ff (k : Nat) : ∀ n : Nat, ((fun x3 x6 x0_0 x0_1 x0_2 x2_0 x2_1 x5_0 x5_1 => FF (spec_l1Cur_problem.E k) n spec_l1Cur_problem.S7 (spec_l1Cur_problem.m7 x3 x6 x0_0 x0_1 x0_2 x2_0 x2_1 x5_0 x5_1)), (fun x3 x6 x8 x0_0 x0_1 x0_2 x2_0 x2_1 x5_0 x5_1 x7 => FF (spec_l1Cur_problem.E k) n spec_l1Cur_problem.S11 (spec_l1Cur_problem.m11 x3 x6 x8 x0_0 x0_1 x0_2 x2_0 x2_1 x5_0 x5_1 x7)), (fun x3 x9 x10 o0_0 o0_1 o0_2 x2_0 x2_1 x5_0 x5_1 => FF (spec_l1Cur_problem.E k) n spec_l1Cur_problem.S25 (spec_l1Cur_problem.m25 x3 x9 x10 o0_0 o0_1 o0_2 x2_0 x2_1 x5_0 x5_1))) = spec_l1Cur_problem.bs k n
  | 0 => rfl
  | n + 1 => by
    show ((fun x3 x6 x0_0 x0_1 x0_2 x2_0 x2_1 x5_0 x5_1 => FF (spec_l1Cur_problem.E k) (n + 1) spec_l1Cur_problem.S7 (spec_l1Cur_problem.m7 x3 x6 x0_0 x0_1 x0_2 x2_0 x2_1 x5_0 x5_1)), (fun x3 x6 x8 x0_0 x0_1 x0_2 x2_0 x2_1 x5_0 x5_1 x7 => FF (spec_l1Cur_problem.E k) (n + 1) spec_l1Cur_problem.S11 (spec_l1Cur_problem.m11 x3 x6 x8 x0_0 x0_1 x0_2 x2_0 x2_1 x5_0 x5_1 x7)), (fun x3 x9 x10 o0_0 o0_1 o0_2 x2_0 x2_1 x5_0 x5_1 => FF (spec_l1Cur_problem.E k) (n + 1) spec_l1Cur_problem.S25 (spec_l1Cur_problem.m25 x3 x9 x10 o0_0 o0_1 o0_2 x2_0 x2_1 x5_0 x5_1))) = (spec_l1Cur_problem.B7 k ((spec_l1Cur_problem.bs k n).1) ((spec_l1Cur_problem.bs k n).2.1) ((spec_l1Cur_problem.bs k n).2.2), spec_l1Cur_problem.B11 k ((spec_l1Cur_problem.bs k n).1) ((spec_l1Cur_problem.bs k n).2.1) ((spec_l1Cur_problem.bs k n).2.2), spec_l1Cur_problem.B25 k ((spec_l1Cur_problem.bs k n).1) ((spec_l1Cur_problem.bs k n).2.1) ((spec_l1Cur_problem.bs k n).2.2))
    rw [← spec_l1Cur_problem.ff k n]
    exact (Prod.ext (funext fun x3 => funext fun x6 => funext fun x0_0 => funext fun x0_1 => funext fun x0_2 => funext fun x2_0 => funext fun x2_1 => funext fun x5_0 => funext fun x5_1 => by dsimp only; exact (FF_succ ..).trans (spec_l1Cur_problem.h7 k (fun t s => FF (spec_l1Cur_problem.E k) n t s) x3 x6 x0_0 x0_1 x0_2 x2_0 x2_1 x5_0 x5_1)) (Prod.ext (funext fun x3 => funext fun x6 => funext fun x8 => funext fun x0_0 => funext fun x0_1 => funext fun x0_2 => funext fun x2_0 => funext fun x2_1 => funext fun x5_0 => funext fun x5_1 => funext fun x7 => by dsimp only; exact (FF_succ ..).trans (spec_l1Cur_problem.h11 k (fun t s => FF (spec_l1Cur_problem.E k) n t s) x3 x6 x8 x0_0 x0_1 x0_2 x2_0 x2_1 x5_0 x5_1 x7)) (funext fun x3 => funext fun x9 => funext fun x10 => funext fun o0_0 => funext fun o0_1 => funext fun o0_2 => funext fun x2_0 => funext fun x2_1 => funext fun x5_0 => funext fun x5_1 => by dsimp only; exact (FF_succ ..).trans (spec_l1Cur_problem.h25 k (fun t s => FF (spec_l1Cur_problem.E k) n t s) x3 x9 x10 o0_0 o0_1 o0_2 x2_0 x2_1 x5_0 x5_1))))
theorem spec_l1Cur_problem.run (k : Nat) (a0 : List Int) (a1 : Int) (a2 : Int): FF (spec_l1Cur_problem.E k) (k + 1) [.code (bodyOf Try.f24)] (stA (spec_l1Cur_problem.E k) [.v (.list (.int .u8)) a0, .v (.int .i64) a1, .v (.int .u64) a2]) = spec_l1Cur_problem.f k a0 a1 a2 :=
  (FF_succ ..).trans ((spec_l1Cur_problem.h k (fun t s => FF (spec_l1Cur_problem.E k) k t s) a0 a1 a2).trans (by
    show _ = spec_l1Cur_problem.B k ((spec_l1Cur_problem.bs k k).1) ((spec_l1Cur_problem.bs k k).2.1) ((spec_l1Cur_problem.bs k k).2.2) a0 a1 a2
    rw [← spec_l1Cur_problem.ff k k]))
theorem spec_l1Cur_problem.ok (k : Nat) : FnOK Try.prog spec_l1Cur_problem.ent spec_l1Cur_problem.ts spec_l1Cur_problem.rs fun a => spec_l1Cur_problem.f k a.1 a.2.1 a.2.2 :=
  ⟨hasBody_of Try.func24 (by kernel_rfl), by kernel_rfl, by kernel_rfl, fun a r hr => good_of (E := (spec_l1Cur_problem.E k)) (k := (k + 1)) (xs := encL spec_l1Cur_problem.ts a) (spec_l1Cur_problem.eok k) (body := (bodyOf Try.f24)) (by kernel_rfl) (by kernel_rfl) ((spec_l1Cur_problem.run k a.1 a.2.1 a.2.2).trans hr)⟩

def spec_l1Cur_weights11.B3 (k : Nat) (r3 : Int → Int → Int → List Int → Int → Int → List Int → Option (List Int × Int × Int × List Int)) (x1 : Int) (x2 : Int) (x8 : Int) (x0_0 : List Int) (x0_1 : Int) (x0_2 : Int) (x7 : List Int) : Option (List Int × Int × Int × List Int) :=
  bif decide (x8 < x1) then ((spec_l1Cur_among.f [1, 1, 2, 3, 5, 9, x2] x0_0 x0_1 x0_2).bind fun t1 => (if x7.length + 1 ≤ capB then (r3 x1 x2 (w64 (x8 + 1)) t1.2.1 t1.2.2.1 t1.2.2.2 (x7 ++ [t1.1])) else none)) else ((spec_l1Cur_pick.f 32 x0_0 x0_1 x0_2).bind fun t2 => (bif decide (t2.1 = (0 : Int)) then (if x7.length + 1 ≤ capB then some (t2.2.1, t2.2.2.1, t2.2.2.2, x7 ++ [1]) else none) else (bif decide (t2.1 = (1 : Int)) then (bif decide ((0 : Int) < (x7.length : Int)) then ((spec_l1Cur_among.f [0, (-1), 10] t2.2.1 t2.2.2.1 t2.2.2.2).bind fun t3 => (if (0 : Int) ≤ 0 ∧ (0 : Int) < (x7.length : Int) then some (t3.2.1, t3.2.2.1, t3.2.2.2, x7.set 0 t3.1) else none)) else some (t2.2.1, t2.2.2.1, t2.2.2.2, x7)) else some (t2.2.1, t2.2.2.1, t2.2.2.2, x7))))
def spec_l1Cur_weights11.B (k : Nat) (r3 : Int → Int → Int → List Int → Int → Int → List Int → Option (List Int × Int × Int × List Int)) (a0 : Int) (a1 : Int) (a2 : List Int) (a3 : Int) (a4 : Int) : Option (List Int × Int × Int × List Int) :=
  r3 a0 a1 0 a2 a3 a4 []
def spec_l1Cur_weights11.bs (k : Nat) : Nat → (Int → Int → Int → List Int → Int → Int → List Int → Option (List Int × Int × Int × List Int))
  | 0 => (fun _ _ _ _ _ _ _ => none)
  | n + 1 => (spec_l1Cur_weights11.B3 k ((spec_l1Cur_weights11.bs k n)))
def spec_l1Cur_weights11.f (k : Nat) (a0 : Int) (a1 : Int) (a2 : List Int) (a3 : Int) (a4 : Int) : Option (List Int × Int × Int × List Int) := spec_l1Cur_weights11.B k ((spec_l1Cur_weights11.bs k k)) a0 a1 a2 a3 a4
def spec_l1Cur_weights11.ent : Ent := ⟨25, [.p 0, .h (.int .i64), .h (.int .i64)], [.box [.h (.list (.int .u8)), .h (.int .i64), .h (.int .u64)]], .own 1 (.int .i64), [.box [.h (.list (.int .u8)), .h (.int .i64), .h (.int .u64)], .buf (.int .i64)], 13⟩
abbrev spec_l1Cur_weights11.ts : List Ty := [.int .i64, .int .i64, .list (.int .u8), .int .i64, .int .u64]
abbrev spec_l1Cur_weights11.rs : List Ty := [.list (.int .u8), .int .i64, .int .u64, .list (.int .i64)]
def spec_l1Cur_weights11.c3 : Cut := ⟨3, [(0, .p 0), (1, .h (.int .i64)), (2, .h (.int .i64)), (7, .own 1 (.int .i64)), (8, .h (.int .i64))], [.box [.h (.list (.int .u8)), .h (.int .i64), .h (.int .u64)], .buf (.int .i64)]⟩
noncomputable def spec_l1Cur_weights11.E (k : Nat) : Env :=
  ⟨tab, 40, spec_l1Cur_weights11.ent, spec_l1Cur_weights11.rs, [spec_l1Cur_among.ent, spec_l1Cur_pick.ent], ctOf [(3, mkF spec_l1Cur_among.ts spec_l1Cur_among.rs fun a => spec_l1Cur_among.f a.1 a.2.1 a.2.2.1 a.2.2.2),
    (2, mkF spec_l1Cur_pick.ts spec_l1Cur_pick.rs fun a => spec_l1Cur_pick.f a.1 a.2.1 a.2.2.1 a.2.2.2)], [spec_l1Cur_weights11.c3], [.tmp 6]⟩
noncomputable def spec_l1Cur_weights11.S3 : List Item := stk (bodyOf Try.f25) 3
noncomputable def spec_l1Cur_weights11.m3 (x1 : Int) (x2 : Int) (x8 : Int) (x0_0 : List Int) (x0_1 : Int) (x0_2 : Int) (x7 : List Int) : St := mkS spec_l1Cur_weights11.c3 [.v (.int .i64) x1, .v (.int .i64) x2, .v (.int .i64) x8, .v (.list (.int .u8)) x0_0, .v (.int .i64) x0_1, .v (.int .u64) x0_2, .v (.list (.int .i64)) x7]
theorem spec_l1Cur_weights11.h3 (k : Nat) (R : List Item → St → Option (PD spec_l1Cur_weights11.rs)) (x1 : Int) (x2 : Int) (x8 : Int) (x0_0 : List Int) (x0_1 : Int) (x0_2 : Int) (x7 : List Int) : run (spec_l1Cur_weights11.E k) R 4000 true spec_l1Cur_weights11.S3 (spec_l1Cur_weights11.m3 x1 x2 x8 x0_0 x0_1 x0_2 x7) = spec_l1Cur_weights11.B3 k (fun x1 x2 x8 x0_0 x0_1 x0_2 x7 => R spec_l1Cur_weights11.S3 (spec_l1Cur_weights11.m3 x1 x2 x8 x0_0 x0_1 x0_2 x7)) x1 x2 x8 x0_0 x0_1 x0_2 x7 := by kernel_rfl
theorem spec_l1Cur_weights11.h (k : Nat) (R : List Item → St → Option (PD spec_l1Cur_weights11.rs)) (a0 : Int) (a1 : Int) (a2 : List Int) (a3 : Int) (a4 : Int) : run (spec_l1Cur_weights11.E k) R 4000 true [.code (bodyOf Try.f25)] (stA (spec_l1Cur_weights11.E k) [.v (.int .i64) a0, .v (.int .i64) a1, .v (.list (.int .u8)) a2, .v (.int .i64) a3, .v (.int .u64) a4]) = spec_l1Cur_weights11.B k (fun x1 x2 x8 x0_0 x0_1 x0_2 x7 => R spec_l1Cur_weights11.S3 (spec_l1Cur_weights11.m3 x1 x2 x8 x0_0 x0_1 x0_2 x7)) a0 a1 a2 a3 a4 := by kernel_rfl
theorem spec_l1Cur_weights11.eok (k : Nat) : EOk Try.prog (spec_l1Cur_weights11.E k) Try.f25 :=
  ⟨Try.func25, Try.ntmps25, by kernel_rfl, tab_ok, mixed, cuts_of (by kernel_rfl), Tab.ok (.cons (spec_l1Cur_among.ok) (by kernel_rfl) (.cons (spec_l1Cur_pick.ok) (by kernel_rfl) .nil)), by kernel_rfl⟩
theorem spec_l1Cur_weights11.ff (k : Nat) : ∀ n : Nat, (fun x1 x2 x8 x0_0 x0_1 x0_2 x7 => FF (spec_l1Cur_weights11.E k) n spec_l1Cur_weights11.S3 (spec_l1Cur_weights11.m3 x1 x2 x8 x0_0 x0_1 x0_2 x7)) = spec_l1Cur_weights11.bs k n
  | 0 => rfl
  | n + 1 => by
    show (fun x1 x2 x8 x0_0 x0_1 x0_2 x7 => FF (spec_l1Cur_weights11.E k) (n + 1) spec_l1Cur_weights11.S3 (spec_l1Cur_weights11.m3 x1 x2 x8 x0_0 x0_1 x0_2 x7)) = (spec_l1Cur_weights11.B3 k ((spec_l1Cur_weights11.bs k n)))
    rw [← spec_l1Cur_weights11.ff k n]
    exact (funext fun x1 => funext fun x2 => funext fun x8 => funext fun x0_0 => funext fun x0_1 => funext fun x0_2 => funext fun x7 => (FF_succ ..).trans (spec_l1Cur_weights11.h3 k (fun t s => FF (spec_l1Cur_weights11.E k) n t s) x1 x2 x8 x0_0 x0_1 x0_2 x7))
theorem spec_l1Cur_weights11.run (k : Nat) (a0 : Int) (a1 : Int) (a2 : List Int) (a3 : Int) (a4 : Int): FF (spec_l1Cur_weights11.E k) (k + 1) [.code (bodyOf Try.f25)] (stA (spec_l1Cur_weights11.E k) [.v (.int .i64) a0, .v (.int .i64) a1, .v (.list (.int .u8)) a2, .v (.int .i64) a3, .v (.int .u64) a4]) = spec_l1Cur_weights11.f k a0 a1 a2 a3 a4 :=
  (FF_succ ..).trans ((spec_l1Cur_weights11.h k (fun t s => FF (spec_l1Cur_weights11.E k) k t s) a0 a1 a2 a3 a4).trans (by
    show _ = spec_l1Cur_weights11.B k ((spec_l1Cur_weights11.bs k k)) a0 a1 a2 a3 a4
    rw [← spec_l1Cur_weights11.ff k k]))
theorem spec_l1Cur_weights11.ok (k : Nat) : FnOK Try.prog spec_l1Cur_weights11.ent spec_l1Cur_weights11.ts spec_l1Cur_weights11.rs fun a => spec_l1Cur_weights11.f k a.1 a.2.1 a.2.2.1 a.2.2.2.1 a.2.2.2.2 :=
  ⟨hasBody_of Try.func25 (by kernel_rfl), by kernel_rfl, by kernel_rfl, fun a r hr => good_of (E := (spec_l1Cur_weights11.E k)) (k := (k + 1)) (xs := encL spec_l1Cur_weights11.ts a) (spec_l1Cur_weights11.eok k) (body := (bodyOf Try.f25)) (by kernel_rfl) (by kernel_rfl) ((spec_l1Cur_weights11.run k a.1 a.2.1 a.2.2.1 a.2.2.2.1 a.2.2.2.2).trans hr)⟩

def spec_l1Cur_state8.B (a0 : List (List Int)) (a1 : List (List Int)) (a2 : List Int) (a3 : Int) (a4 : Int) : Option (Int × List Int × Int × Int) :=
  bif decide ((a0.length : Int) = (0 : Int)) then ((spec_l1Cur_among.f [(-1), (a0.length : Int)] a2 a3 a4).bind fun t1 => some (t1.1, t1.2.1, t1.2.2.1, t1.2.2.2)) else ((spec_l1Cur_one.f 20 a2 a3 a4).bind fun t2 => (bif t2.1 then ((spec_l1Cur_among.f [(-1), (a0.length : Int)] t2.2.1 t2.2.2.1 t2.2.2.2).bind fun t3 => some (t3.1, t3.2.1, t3.2.2.1, t3.2.2.2)) else ((spec_l1Cur_pick.f (a0.length : Int) t2.2.1 t2.2.2.1 t2.2.2.2).bind fun t4 => some (t4.1, t4.2.1, t4.2.2.1, t4.2.2.2))))
def spec_l1Cur_state8.f (a0 : List (List Int)) (a1 : List (List Int)) (a2 : List Int) (a3 : Int) (a4 : Int) : Option (Int × List Int × Int × Int) := spec_l1Cur_state8.B a0 a1 a2 a3 a4
def spec_l1Cur_state8.ent : Ent := ⟨27, [.p 0, .agg [.h (.list (.list (.int .i64))), .h (.list (.list (.int .i64)))]], [.box [.h (.list (.int .u8)), .h (.int .i64), .h (.int .u64)]], .h (.int .i64), [.box [.h (.list (.int .u8)), .h (.int .i64), .h (.int .u64)]], 14⟩
abbrev spec_l1Cur_state8.ts : List Ty := [.list (.list (.int .i64)), .list (.list (.int .i64)), .list (.int .u8), .int .i64, .int .u64]
abbrev spec_l1Cur_state8.rs : List Ty := [.int .i64, .list (.int .u8), .int .i64, .int .u64]
noncomputable def spec_l1Cur_state8.E : Env :=
  ⟨tab, 24, spec_l1Cur_state8.ent, spec_l1Cur_state8.rs, [spec_l1Cur_among.ent, spec_l1Cur_one.ent, spec_l1Cur_pick.ent], ctOf [(3, mkF spec_l1Cur_among.ts spec_l1Cur_among.rs fun a => spec_l1Cur_among.f a.1 a.2.1 a.2.2.1 a.2.2.2),
    (5, mkF spec_l1Cur_one.ts spec_l1Cur_one.rs fun a => spec_l1Cur_one.f a.1 a.2.1 a.2.2.1 a.2.2.2),
    (2, mkF spec_l1Cur_pick.ts spec_l1Cur_pick.rs fun a => spec_l1Cur_pick.f a.1 a.2.1 a.2.2.1 a.2.2.2)], [], [.tmp 4]⟩
theorem spec_l1Cur_state8.h (R : List Item → St → Option (PD spec_l1Cur_state8.rs)) (a0 : List (List Int)) (a1 : List (List Int)) (a2 : List Int) (a3 : Int) (a4 : Int) : run (spec_l1Cur_state8.E) R 4000 true [.code (bodyOf Try.f27)] (stA (spec_l1Cur_state8.E) [.v (.list (.list (.int .i64))) a0, .v (.list (.list (.int .i64))) a1, .v (.list (.int .u8)) a2, .v (.int .i64) a3, .v (.int .u64) a4]) = spec_l1Cur_state8.B a0 a1 a2 a3 a4 := by kernel_rfl
theorem spec_l1Cur_state8.eok : EOk Try.prog (spec_l1Cur_state8.E) Try.f27 :=
  ⟨Try.func27, Try.ntmps27, by kernel_rfl, tab_ok, mixed, cuts_of (by kernel_rfl), Tab.ok (.cons (spec_l1Cur_among.ok) (by kernel_rfl) (.cons (spec_l1Cur_one.ok) (by kernel_rfl) (.cons (spec_l1Cur_pick.ok) (by kernel_rfl) .nil))), by kernel_rfl⟩
theorem spec_l1Cur_state8.run (a0 : List (List Int)) (a1 : List (List Int)) (a2 : List Int) (a3 : Int) (a4 : Int): FF (spec_l1Cur_state8.E) 1 [.code (bodyOf Try.f27)] (stA (spec_l1Cur_state8.E) [.v (.list (.list (.int .i64))) a0, .v (.list (.list (.int .i64))) a1, .v (.list (.int .u8)) a2, .v (.int .i64) a3, .v (.int .u64) a4]) = spec_l1Cur_state8.f a0 a1 a2 a3 a4 :=
  (FF_succ ..).trans (spec_l1Cur_state8.h (fun t s => FF (spec_l1Cur_state8.E) 0 t s) a0 a1 a2 a3 a4)
theorem spec_l1Cur_state8.ok : FnOK Try.prog spec_l1Cur_state8.ent spec_l1Cur_state8.ts spec_l1Cur_state8.rs fun a => spec_l1Cur_state8.f a.1 a.2.1 a.2.2.1 a.2.2.2.1 a.2.2.2.2 :=
  ⟨hasBody_of Try.func27 (by kernel_rfl), by kernel_rfl, by kernel_rfl, fun a r hr => good_of (E := (spec_l1Cur_state8.E)) (k := 1) (xs := encL spec_l1Cur_state8.ts a) (spec_l1Cur_state8.eok) (body := (bodyOf Try.f27)) (by kernel_rfl) (by kernel_rfl) ((spec_l1Cur_state8.run a.1 a.2.1 a.2.2.1 a.2.2.2.1 a.2.2.2.2).trans hr)⟩

def spec_DrawIndependentBest.B (k : Nat) (a0 : List Int) : Option (List (List Int) × List (List Int) × Int × Int × List Int) :=
  (spec_l1Cur_problem.f k a0 0 0).bind fun t1 => ((spec_l1Cur_weights11.f k (t1.1.length : Int) 0 t1.2.1 t1.2.2.1 t1.2.2.2.1).bind fun t2 => ((spec_l1Cur_one.f 24 t2.1 t2.2.1 t2.2.2.1).bind fun t3 => (bif t3.1 then (if (0 : Int) ≤ (t1.1.length : Int) ∧ (t1.1.length : Int) ≤ (t1.1.length : Int) ∧ (t1.1.length : Int) ≤ 549755813888 then ((spec_l1Cur_state8.f t1.2.2.2.2 t1.1 t3.2.1 t3.2.2.1 t3.2.2.2).bind fun t4 => ((spec_l1Cur_pick.f 16 t4.2.1 t4.2.2.1 t4.2.2.2).bind fun t5 => (if (6 : Int) ≠ 0 then (if (0 : Int) ≤ 0 ∧ (0 : Int) ≤ w64 (4 + (w64 (Int.tdiv t5.1 6))) ∧ w64 (4 + (w64 (Int.tdiv t5.1 6))) ≤ (([0, 1, 2, 3, 4, (-1)]).length : Int) then ((spec_l1Cur_among.f (List.take ((w64 (4 + (w64 (Int.tdiv t5.1 6))) - 0).toNat) (List.drop 0 [0, 1, 2, 3, 4, (-1)])) t5.2.1 t5.2.2.1 t5.2.2.2).bind fun t6 => some (t1.2.2.2.2, t1.1, t4.1, t6.1, List.replicate (t1.1.length : Int).toNat (0 : Int))) else none) else none))) else none) else ((spec_l1Cur_state8.f t1.2.2.2.2 t1.1 t3.2.1 t3.2.2.1 t3.2.2.2).bind fun t7 => ((spec_l1Cur_pick.f 16 t7.2.1 t7.2.2.1 t7.2.2.2).bind fun t8 => (if (6 : Int) ≠ 0 then (if (0 : Int) ≤ 0 ∧ (0 : Int) ≤ w64 (4 + (w64 (Int.tdiv t8.1 6))) ∧ w64 (4 + (w64 (Int.tdiv t8.1 6))) ≤ (([0, 1, 2, 3, 4, (-1)]).length : Int) then ((spec_l1Cur_among.f (List.take ((w64 (4 + (w64 (Int.tdiv t8.1 6))) - 0).toNat) (List.drop 0 [0, 1, 2, 3, 4, (-1)])) t8.2.1 t8.2.2.1 t8.2.2.2).bind fun t9 => some (t1.2.2.2.2, t1.1, t7.1, t9.1, t2.2.2.2)) else none) else none))))))
def spec_DrawIndependentBest.f (k : Nat) (a0 : List Int) : Option (List (List Int) × List (List Int) × Int × Int × List Int) := spec_DrawIndependentBest.B k a0
def spec_DrawIndependentBest.ent : Ent := ⟨7, [.h (.list (.int .u8))], [], .tup [.agg [.h (.list (.list (.int .i64))), .h (.list (.list (.int .i64)))], .h (.int .i64), .own 0 (.int .i64), .h (.int .i64)], [.buf (.int .i64)], 15⟩
abbrev spec_DrawIndependentBest.ts : List Ty := [.list (.int .u8)]
abbrev spec_DrawIndependentBest.rs : List Ty := [.list (.list (.int .i64)), .list (.list (.int .i64)), .int .i64, .int .i64, .list (.int .i64)]
noncomputable def spec_DrawIndependentBest.E (k : Nat) : Env :=
  ⟨tab, 38, spec_DrawIndependentBest.ent, spec_DrawIndependentBest.rs, [spec_l1Cur_problem.ent, spec_l1Cur_weights11.ent, spec_l1Cur_one.ent, spec_l1Cur_state8.ent, spec_l1Cur_pick.ent, spec_l1Cur_among.ent], ctOf [(12, mkF spec_l1Cur_problem.ts spec_l1Cur_problem.rs fun a => spec_l1Cur_problem.f k a.1 a.2.1 a.2.2),
    (13, mkF spec_l1Cur_weights11.ts spec_l1Cur_weights11.rs fun a => spec_l1Cur_weights11.f k a.1 a.2.1 a.2.2.1 a.2.2.2.1 a.2.2.2.2),
    (5, mkF spec_l1Cur_one.ts spec_l1Cur_one.rs fun a => spec_l1Cur_one.f a.1 a.2.1 a.2.2.1 a.2.2.2),
    (14, mkF spec_l1Cur_state8.ts spec_l1Cur_state8.rs fun a => spec_l1Cur_state8.f a.1 a.2.1 a.2.2.1 a.2.2.2.1 a.2.2.2.2),
    (2, mkF spec_l1Cur_pick.ts spec_l1Cur_pick.rs fun a => spec_l1Cur_pick.f a.1 a.2.1 a.2.2.1 a.2.2.2),
    (3, mkF spec_l1Cur_among.ts spec_l1Cur_among.rs fun a => spec_l1Cur_among.f a.1 a.2.1 a.2.2.1 a.2.2.2)], [], [.cell 2 26, .tmp 3, .tmp 4, .tmp 5]⟩
theorem spec_DrawIndependentBest.h (k : Nat) (R : List Item → St → Option (PD spec_DrawIndependentBest.rs)) (a0 : List Int) : run (spec_DrawIndependentBest.E k) R 4000 true [.code (bodyOf Try.f7)] (stA (spec_DrawIndependentBest.E k) [.v (.list (.int .u8)) a0]) = spec_DrawIndependentBest.B k a0 := by kernel_rfl
theorem spec_DrawIndependentBest.eok (k : Nat) : EOk Try.prog (spec_DrawIndependentBest.E k) Try.f7 :=
  ⟨Try.func7, Try.ntmps7, by kernel_rfl, tab_ok, mixed, cuts_of (by kernel_rfl), Tab.ok (.cons (spec_l1Cur_problem.ok k) (by kernel_rfl) (.cons (spec_l1Cur_weights11.ok k) (by kernel_rfl) (.cons (spec_l1Cur_one.ok) (by kernel_rfl) (.cons (spec_l1Cur_state8.ok) (by kernel_rfl) (.cons (spec_l1Cur_pick.ok) (by kernel_rfl) (.cons (spec_l1Cur_among.ok) (by kernel_rfl) .nil)))))), by kernel_rfl⟩
theorem spec_DrawIndependentBest.run (k : Nat) (a0 : List Int): FF (spec_DrawIndependentBest.E k) 1 [.code (bodyOf Try.f7)] (stA (spec_DrawIndependentBest.E k) [.v (.list (.int .u8)) a0]) = spec_DrawIndependentBest.f k a0 :=
  (FF_succ ..).trans (spec_DrawIndependentBest.h k (fun t s => FF (spec_DrawIndependentBest.E k) 0 t s) a0)
theorem spec_DrawIndependentBest.ok (k : Nat) : FnOK Try.prog spec_DrawIndependentBest.ent spec_DrawIndependentBest.ts spec_DrawIndependentBest.rs fun a => spec_DrawIndependentBest.f k a :=
  ⟨hasBody_of Try.func7 (by kernel_rfl), by kernel_rfl, by kernel_rfl, fun a r hr => good_of (E := (spec_DrawIndependentBest.E k)) (k := 1) (xs := encL spec_DrawIndependentBest.ts a) (spec_DrawIndependentBest.eok k) (body := (bodyOf Try.f7)) (by kernel_rfl) (by kernel_rfl) ((spec_DrawIndependentBest.run k a).trans hr)⟩

def impl_within.B (a0 : Int) (a1 : Int) (a2 : Int) : Option (Bool) :=
  bif decide (a1 ≤ a0) then some (decide (a0 ≤ a2)) else some false
def impl_within.f (a0 : Int) (a1 : Int) (a2 : Int) : Option (Bool) := impl_within.B a0 a1 a2
def impl_within.ent : Ent := ⟨31, [.h (.int .i64), .h (.int .i64), .h (.int .i64)], [], .h (.bool), [], 16⟩
abbrev impl_within.ts : List Ty := [.int .i64, .int .i64, .int .i64]
abbrev impl_within.rs : List Ty := [.bool]
noncomputable def impl_within.E : Env :=
  ⟨tab, 15, impl_within.ent, impl_within.rs, [], ctOf [], [], [.tmp 6]⟩
theorem impl_within.h (R : List Item → St → Option (PD impl_within.rs)) (a0 : Int) (a1 : Int) (a2 : Int) : run (impl_within.E) R 4000 true [.code (bodyOf Try.f31)] (stA (impl_within.E) [.v (.int .i64) a0, .v (.int .i64) a1, .v (.int .i64) a2]) = impl_within.B a0 a1 a2 := by kernel_rfl
theorem impl_within.eok : EOk Try.prog (impl_within.E) Try.f31 :=
  ⟨Try.func31, Try.ntmps31, by kernel_rfl, tab_ok, mixed, cuts_of (by kernel_rfl), Tab.ok .nil, by kernel_rfl⟩
theorem impl_within.run (a0 : Int) (a1 : Int) (a2 : Int): FF (impl_within.E) 1 [.code (bodyOf Try.f31)] (stA (impl_within.E) [.v (.int .i64) a0, .v (.int .i64) a1, .v (.int .i64) a2]) = impl_within.f a0 a1 a2 :=
  (FF_succ ..).trans (impl_within.h (fun t s => FF (impl_within.E) 0 t s) a0 a1 a2)
theorem impl_within.ok : FnOK Try.prog impl_within.ent impl_within.ts impl_within.rs fun a => impl_within.f a.1 a.2.1 a.2.2 :=
  ⟨hasBody_of Try.func31 (by kernel_rfl), by kernel_rfl, by kernel_rfl, fun a r hr => good_of (E := (impl_within.E)) (k := 1) (xs := encL impl_within.ts a) (impl_within.eok) (body := (bodyOf Try.f31)) (by kernel_rfl) (by kernel_rfl) ((impl_within.run a.1 a.2.1 a.2.2).trans hr)⟩

def impl_Problem_metric.B (a0 : List (List Int)) (a1 : List (List Int)) : Option (List (List Int)) :=
  some a0
def impl_Problem_metric.f (a0 : List (List Int)) (a1 : List (List Int)) : Option (List (List Int)) := impl_Problem_metric.B a0 a1
def impl_Problem_metric.ent : Ent := ⟨86, [.agg [.h (.list (.list (.int .i64))), .h (.list (.list (.int .i64)))]], [], .agg [.h (.list (.list (.int .i64)))], [], 17⟩
abbrev impl_Problem_metric.ts : List Ty := [.list (.list (.int .i64)), .list (.list (.int .i64))]
abbrev impl_Problem_metric.rs : List Ty := [.list (.list (.int .i64))]
noncomputable def impl_Problem_metric.E : Env :=
  ⟨tab, 6, impl_Problem_metric.ent, impl_Problem_metric.rs, [], ctOf [], [], [.cell 2 91]⟩
theorem impl_Problem_metric.h (R : List Item → St → Option (PD impl_Problem_metric.rs)) (a0 : List (List Int)) (a1 : List (List Int)) : run (impl_Problem_metric.E) R 4000 true [.code (bodyOf Try.f86)] (stA (impl_Problem_metric.E) [.v (.list (.list (.int .i64))) a0, .v (.list (.list (.int .i64))) a1]) = impl_Problem_metric.B a0 a1 := by kernel_rfl
theorem impl_Problem_metric.eok : EOk Try.prog (impl_Problem_metric.E) Try.f86 :=
  ⟨Try.func86, Try.ntmps86, by kernel_rfl, tab_ok, mixed, cuts_of (by kernel_rfl), Tab.ok .nil, by kernel_rfl⟩
theorem impl_Problem_metric.run (a0 : List (List Int)) (a1 : List (List Int)): FF (impl_Problem_metric.E) 1 [.code (bodyOf Try.f86)] (stA (impl_Problem_metric.E) [.v (.list (.list (.int .i64))) a0, .v (.list (.list (.int .i64))) a1]) = impl_Problem_metric.f a0 a1 :=
  (FF_succ ..).trans (impl_Problem_metric.h (fun t s => FF (impl_Problem_metric.E) 0 t s) a0 a1)
theorem impl_Problem_metric.ok : FnOK Try.prog impl_Problem_metric.ent impl_Problem_metric.ts impl_Problem_metric.rs fun a => impl_Problem_metric.f a.1 a.2 :=
  ⟨hasBody_of Try.func86 (by kernel_rfl), by kernel_rfl, by kernel_rfl, fun a r hr => good_of (E := (impl_Problem_metric.E)) (k := 1) (xs := encL impl_Problem_metric.ts a) (impl_Problem_metric.eok) (body := (bodyOf Try.f86)) (by kernel_rfl) (by kernel_rfl) ((impl_Problem_metric.run a.1 a.2).trans hr)⟩

def impl_Metric_isTable_1.B (a0 : List Int) (a1 : Int) : Option (Bool) :=
  some (!decide ((a0.length : Int) = a1))
def impl_Metric_isTable_1.f (a0 : List Int) (a1 : Int) : Option (Bool) := impl_Metric_isTable_1.B a0 a1
def impl_Metric_isTable_1.ent : Ent := ⟨112, [.h (.list (.int .i64)), .rp [.h (.int .i64)]], [], .h (.bool), [], 18⟩
abbrev impl_Metric_isTable_1.ts : List Ty := [.list (.int .i64), .int .i64]
abbrev impl_Metric_isTable_1.rs : List Ty := [.bool]
noncomputable def impl_Metric_isTable_1.E : Env :=
  ⟨tab, 8, impl_Metric_isTable_1.ent, impl_Metric_isTable_1.rs, [], ctOf [], [], [.tmp 3]⟩
theorem impl_Metric_isTable_1.h (R : List Item → St → Option (PD impl_Metric_isTable_1.rs)) (a0 : List Int) (a1 : Int) : run (impl_Metric_isTable_1.E) R 4000 true [.code (bodyOf Try.f112)] (stA (impl_Metric_isTable_1.E) [.v (.list (.int .i64)) a0, .v (.int .i64) a1]) = impl_Metric_isTable_1.B a0 a1 := by kernel_rfl
theorem impl_Metric_isTable_1.eok : EOk Try.prog (impl_Metric_isTable_1.E) Try.f112 :=
  ⟨Try.func112, Try.ntmps112, by kernel_rfl, tab_ok, mixed, cuts_of (by kernel_rfl), Tab.ok .nil, by kernel_rfl⟩
theorem impl_Metric_isTable_1.run (a0 : List Int) (a1 : Int): FF (impl_Metric_isTable_1.E) 1 [.code (bodyOf Try.f112)] (stA (impl_Metric_isTable_1.E) [.v (.list (.int .i64)) a0, .v (.int .i64) a1]) = impl_Metric_isTable_1.f a0 a1 :=
  (FF_succ ..).trans (impl_Metric_isTable_1.h (fun t s => FF (impl_Metric_isTable_1.E) 0 t s) a0 a1)
theorem impl_Metric_isTable_1.ok : FnOK Try.prog impl_Metric_isTable_1.ent impl_Metric_isTable_1.ts impl_Metric_isTable_1.rs fun a => impl_Metric_isTable_1.f a.1 a.2 :=
  ⟨hasBody_of Try.func112 (by kernel_rfl), by kernel_rfl, by kernel_rfl, fun a r hr => good_of (E := (impl_Metric_isTable_1.E)) (k := 1) (xs := encL impl_Metric_isTable_1.ts a) (impl_Metric_isTable_1.eok) (body := (bodyOf Try.f112)) (by kernel_rfl) (by kernel_rfl) ((impl_Metric_isTable_1.run a.1 a.2).trans hr)⟩

def slices_IndexFunc_at_Metric_isTable_1.B2 (k : Nat) (r2 : List (List Int) → Int → Int → Int → Option (Int)) (x0 : List (List Int)) (x1_0_0 : Int) (x7 : Int) (x8 : Int) : Option (Int) :=
  bif decide (x8 < x7) then (if (0 : Int) ≤ x8 ∧ x8 < (x0.length : Int) then ((impl_Metric_isTable_1.f (x0.getD x8.toNat []) x1_0_0).bind fun t1 => (bif t1 then some x8 else (r2 x0 x1_0_0 x7 (w64 (x8 + 1))))) else none) else some (-1)
def slices_IndexFunc_at_Metric_isTable_1.B (k : Nat) (r2 : List (List Int) → Int → Int → Int → Option (Int)) (a0 : List (List Int)) (a1 : Int) : Option (Int) :=
  r2 a0 a1 (a0.length : Int) 0
def slices_IndexFunc_at_Metric_isTable_1.bs (k : Nat) : Nat → (List (List Int) → Int → Int → Int → Option (Int))
  | 0 => (fun _ _ _ _ => none)
  | n + 1 => (slices_IndexFunc_at_Metric_isTable_1.B2 k ((slices_IndexFunc_at_Metric_isTable_1.bs k n)))
def slices_IndexFunc_at_Metric_isTable_1.f (k : Nat) (a0 : List (List Int)) (a1 : Int) : Option (Int) := slices_IndexFunc_at_Metric_isTable_1.B k ((slices_IndexFunc_at_Metric_isTable_1.bs k k)) a0 a1
def slices_IndexFunc_at_Metric_isTable_1.ent : Ent := ⟨104, [.h (.list (.list (.int .i64))), .fn 112 [] [.rp [.h (.int .i64)]]], [], .h (.int .i64), [], 19⟩
abbrev slices_IndexFunc_at_Metric_isTable_1.ts : List Ty := [.list (.list (.int .i64)), .int .i64]
abbrev slices_IndexFunc_at_Metric_isTable_1.rs : List Ty := [.int .i64]
def slices_IndexFunc_at_Metric_isTable_1.c2 : Cut := ⟨2, [(0, .h (.list (.list (.int .i64)))), (1, .fn 112 [] [.rp [.h (.int .i64)]]), (7, .h (.int .i64)), (8, .h (.int .i64))], []⟩
noncomputable def slices_IndexFunc_at_Metric_isTable_1.E (k : Nat) : Env :=
  ⟨tab, 19, slices_IndexFunc_at_Metric_isTable_1.ent, slices_IndexFunc_at_Metric_isTable_1.rs, [impl_Metric_isTable_1.ent], ctOf [(18, mkF impl_Metric_isTable_1.ts impl_Metric_isTable_1.rs fun a => impl_Metric_isTable_1.f a.1 a.2)], [slices_IndexFunc_at_Metric_isTable_1.c2], [.tmp 4]⟩
noncomputable def slices_IndexFunc_at_Metric_isTable_1.S2 : List Item := stk (bodyOf Try.f104) 2
noncomputable def slices_IndexFunc_at_Metric_isTable_1.m2 (x0 : List (List Int)) (x1_0_0 : Int) (x7 : Int) (x8 : Int) : St := mkS slices_IndexFunc_at_Metric_isTable_1.c2 [.v (.list (.list (.int .i64))) x0, .v (.int .i64) x1_0_0, .v (.int .i64) x7, .v (.int .i64) x8]
theorem slices_IndexFunc_at_Metric_isTable_1.h2 (k : Nat) (R : List Item → St → Option (PD slices_IndexFunc_at_Metric_isTable_1.rs)) (x0 : List (List Int)) (x1_0_0 : Int) (x7 : Int) (x8 : Int) : run (slices_IndexFunc_at_Metric_isTable_1.E k) R 4000 true slices_IndexFunc_at_Metric_isTable_1.S2 (slices_IndexFunc_at_Metric_isTable_1.m2 x0 x1_0_0 x7 x8) = slices_IndexFunc_at_Metric_isTable_1.B2 k (fun x0 x1_0_0 x7 x8 => R slices_IndexFunc_at_Metric_isTable_1.S2 (slices_IndexFunc_at_Metric_isTable_1.m2 x0 x1_0_0 x7 x8)) x0 x1_0_0 x7 x8 := by kernel_rfl
theorem slices_IndexFunc_at_Metric_isTable_1.h (k : Nat) (R : List Item → St → Option (PD slices_IndexFunc_at_Metric_isTable_1.rs)) (a0 : List (List Int)) (a1 : Int) : run (slices_IndexFunc_at_Metric_isTable_1.E k) R 4000 true [.code (bodyOf Try.f104)] (stA (slices_IndexFunc_at_Metric_isTable_1.E k) [.v (.list (.list (.int .i64))) a0, .v (.int .i64) a1]) = slices_IndexFunc_at_Metric_isTable_1.B k (fun x0 x1_0_0 x7 x8 => R slices_IndexFunc_at_Metric_isTable_1.S2 (slices_IndexFunc_at_Metric_isTable_1.m2 x0 x1_0_0 x7 x8)) a0 a1 := by kernel_rfl
theorem slices_IndexFunc_at_Metric_isTable_1.eok (k : Nat) : EOk Try.prog (slices_IndexFunc_at_Metric_isTable_1.E k) Try.f104 :=
  ⟨Try.func104, Try.ntmps104, by kernel_rfl, tab_ok, mixed, cuts_of (by kernel_rfl), Tab.ok (.cons (impl_Metric_isTable_1.ok) (by kernel_rfl) .nil), by kernel_rfl⟩
theorem slices_IndexFunc_at_Metric_isTable_1.ff (k : Nat) : ∀ n : Nat, (fun x0 x1_0_0 x7 x8 => FF (slices_IndexFunc_at_Metric_isTable_1.E k) n slices_IndexFunc_at_Metric_isTable_1.S2 (slices_IndexFunc_at_Metric_isTable_1.m2 x0 x1_0_0 x7 x8)) = slices_IndexFunc_at_Metric_isTable_1.bs k n
  | 0 => rfl
  | n + 1 => by
    show (fun x0 x1_0_0 x7 x8 => FF (slices_IndexFunc_at_Metric_isTable_1.E k) (n + 1) slices_IndexFunc_at_Metric_isTable_1.S2 (slices_IndexFunc_at_Metric_isTable_1.m2 x0 x1_0_0 x7 x8)) = (slices_IndexFunc_at_Metric_isTable_1.B2 k ((slices_IndexFunc_at_Metric_isTable_1.bs k n)))
    rw [← slices_IndexFunc_at_Metric_isTable_1.ff k n]
    exact (funext fun x0 => funext fun x1_0_0 => funext fun x7 => funext fun x8 => (FF_succ ..).trans (slices_IndexFunc_at_Metric_isTable_1.h2 k (fun t s => FF (slices_IndexFunc_at_Metric_isTable_1.E k) n t s) x0 x1_0_0 x7 x8))
theorem slices_IndexFunc_at_Metric_isTable_1.run (k : Nat) (a0 : List (List Int)) (a1 : Int): FF (slices_IndexFunc_at_Metric_isTable_1.E k) (k + 1) [.code (bodyOf Try.f104)] (stA (slices_IndexFunc_at_Metric_isTable_1.E k) [.v (.list (.list (.int .i64))) a0, .v (.int .i64) a1]) = slices_IndexFunc_at_Metric_isTable_1.f k a0 a1 :=
  (FF_succ ..).trans ((slices_IndexFunc_at_Metric_isTable_1.h k (fun t s => FF (slices_IndexFunc_at_Metric_isTable_1.E k) k t s) a0 a1).trans (by
    show _ = slices_IndexFunc_at_Metric_isTable_1.B k ((slices_IndexFunc_at_Metric_isTable_1.bs k k)) a0 a1
    rw [← slices_IndexFunc_at_Metric_isTable_1.ff k k]))
theorem slices_IndexFunc_at_Metric_isTable_1.ok (k : Nat) : FnOK Try.prog slices_IndexFunc_at_Metric_isTable_1.ent slices_IndexFunc_at_Metric_isTable_1.ts slices_IndexFunc_at_Metric_isTable_1.rs fun a => slices_IndexFunc_at_Metric_isTable_1.f k a.1 a.2 :=
  ⟨hasBody_of Try.func104 (by kernel_rfl), by kernel_rfl, by kernel_rfl, fun a r hr => good_of (E := (slices_IndexFunc_at_Metric_isTable_1.E k)) (k := (k + 1)) (xs := encL slices_IndexFunc_at_Metric_isTable_1.ts a) (slices_IndexFunc_at_Metric_isTable_1.eok k) (body := (bodyOf Try.f104)) (by kernel_rfl) (by kernel_rfl) ((slices_IndexFunc_at_Metric_isTable_1.run k a.1 a.2).trans hr)⟩

def slices_ContainsFunc_at_Metric_isTable_1.B (k : Nat) (a0 : List (List Int)) (a1 : Int) : Option (Bool) :=
  (slices_IndexFunc_at_Metric_isTable_1.f k a0 a1).bind fun t1 => some (decide ((0 : Int) ≤ t1))
def slices_ContainsFunc_at_Metric_isTable_1.f (k : Nat) (a0 : List (List Int)) (a1 : Int) : Option (Bool) := slices_ContainsFunc_at_Metric_isTable_1.B k a0 a1
def slices_ContainsFunc_at_Metric_isTable_1.ent : Ent := ⟨87, [.h (.list (.list (.int .i64))), .fn 112 [] [.rp [.h (.int .i64)]]], [], .h (.bool), [], 20⟩
abbrev slices_ContainsFunc_at_Metric_isTable_1.ts : List Ty := [.list (.list (.int .i64)), .int .i64]
abbrev slices_ContainsFunc_at_Metric_isTable_1.rs : List Ty := [.bool]
noncomputable def slices_ContainsFunc_at_Metric_isTable_1.E (k : Nat) : Env :=
  ⟨tab, 9, slices_ContainsFunc_at_Metric_isTable_1.ent, slices_ContainsFunc_at_Metric_isTable_1.rs, [slices_IndexFunc_at_Metric_isTable_1.ent], ctOf [(19, mkF slices_IndexFunc_at_Metric_isTable_1.ts slices_IndexFunc_at_Metric_isTable_1.rs fun a => slices_IndexFunc_at_Metric_isTable_1.f k a.1 a.2)], [], [.tmp 4]⟩
theorem slices_ContainsFunc_at_Metric_isTable_1.h (k : Nat) (R : List Item → St → Option (PD slices_ContainsFunc_at_Metric_isTable_1.rs)) (a0 : List (List Int)) (a1 : Int) : run (slices_ContainsFunc_at_Metric_isTable_1.E k) R 4000 true [.code (bodyOf Try.f87)] (stA (slices_ContainsFunc_at_Metric_isTable_1.E k) [.v (.list (.list (.int .i64))) a0, .v (.int .i64) a1]) = slices_ContainsFunc_at_Metric_isTable_1.B k a0 a1 := by kernel_rfl
theorem slices_ContainsFunc_at_Metric_isTable_1.eok (k : Nat) : EOk Try.prog (slices_ContainsFunc_at_Metric_isTable_1.E k) Try.f87 :=
  ⟨Try.func87, Try.ntmps87, by kernel_rfl, tab_ok, mixed, cuts_of (by kernel_rfl), Tab.ok (.cons (slices_IndexFunc_at_Metric_isTable_1.ok k) (by kernel_rfl) .nil), by kernel_rfl⟩
theorem slices_ContainsFunc_at_Metric_isTable_1.run (k : Nat) (a0 : List (List Int)) (a1 : Int): FF (slices_ContainsFunc_at_Metric_isTable_1.E k) 1 [.code (bodyOf Try.f87)] (stA (slices_ContainsFunc_at_Metric_isTable_1.E k) [.v (.list (.list (.int .i64))) a0, .v (.int .i64) a1]) = slices_ContainsFunc_at_Metric_isTable_1.f k a0 a1 :=
  (FF_succ ..).trans (slices_ContainsFunc_at_Metric_isTable_1.h k (fun t s => FF (slices_ContainsFunc_at_Metric_isTable_1.E k) 0 t s) a0 a1)
theorem slices_ContainsFunc_at_Metric_isTable_1.ok (k : Nat) : FnOK Try.prog slices_ContainsFunc_at_Metric_isTable_1.ent slices_ContainsFunc_at_Metric_isTable_1.ts slices_ContainsFunc_at_Metric_isTable_1.rs fun a => slices_ContainsFunc_at_Metric_isTable_1.f k a.1 a.2 :=
  ⟨hasBody_of Try.func87 (by kernel_rfl), by kernel_rfl, by kernel_rfl, fun a r hr => good_of (E := (slices_ContainsFunc_at_Metric_isTable_1.E k)) (k := 1) (xs := encL slices_ContainsFunc_at_Metric_isTable_1.ts a) (slices_ContainsFunc_at_Metric_isTable_1.eok k) (body := (bodyOf Try.f87)) (by kernel_rfl) (by kernel_rfl) ((slices_ContainsFunc_at_Metric_isTable_1.run k a.1 a.2).trans hr)⟩

def impl_Metric_isTable.B5 (k : Nat) (r5 : Bool → Int → Int → List (List Int) → Option (Bool)) (r8 : Bool → Int → Int → Int → List Int → Int → Int → List (List Int) → Option (Bool)) (x1 : Bool) (x21 : Int) (x22 : Int) (x2_0 : List (List Int)) : Option (Bool) :=
  bif decide (x22 < x21) then (if (0 : Int) ≤ x22 ∧ x22 < (x2_0.length : Int) then (r8 x1 x22 x21 x22 (x2_0.getD x22.toNat []) ((x2_0.getD x22.toNat []).length : Int) 0 x2_0) else none) else some true
def impl_Metric_isTable.B8 (k : Nat) (r5 : Bool → Int → Int → List (List Int) → Option (Bool)) (r8 : Bool → Int → Int → Int → List Int → Int → Int → List (List Int) → Option (Bool)) (x1 : Bool) (x6 : Int) (x21 : Int) (x22 : Int) (x29 : List Int) (x30 : Int) (x31 : Int) (x2_0 : List (List Int)) : Option (Bool) :=
  bif decide (x31 < x30) then (if (0 : Int) ≤ x31 ∧ x31 < (x29.length : Int) then (bif decide (x6 = x31) then (bif !decide (x29.getD x31.toNat 0 = (0 : Int)) then (bif !decide (x29.getD x31.toNat 0 = (0 : Int)) then some false else (bif !decide (x6 = x31) then (bif decide (x29.getD x31.toNat 0 < (1 : Int)) then (bif x1 then (bif !(decide (x29.getD x31.toNat 0 = ((-1) : Int))) then some false else (r8 x1 x6 x21 x22 x29 x30 (w64 (x31 + 1)) x2_0)) else some false) else (r8 x1 x6 x21 x22 x29 x30 (w64 (x31 + 1)) x2_0)) else (r8 x1 x6 x21 x22 x29 x30 (w64 (x31 + 1)) x2_0))) else (if (0 : Int) ≤ x31 ∧ x31 < (x2_0.length : Int) then (if (0 : Int) ≤ x6 ∧ x6 < ((x2_0.getD x31.toNat []).length : Int) then (bif !decide (x29.getD x31.toNat 0 = (x2_0.getD x31.toNat []).getD x6.toNat 0) then (bif !decide (x29.getD x31.toNat 0 = (x2_0.getD x31.toNat []).getD x6.toNat 0) then some false else (bif !decide (x6 = x31) then (bif decide (x29.getD x31.toNat 0 < (1 : Int)) then (bif x1 then (bif !(decide (x29.getD x31.toNat 0 = ((-1) : Int))) then some false else (r8 x1 x6 x21 x22 x29 x30 (w64 (x31 + 1)) x2_0)) else some false) else (r8 x1 x6 x21 x22 x29 x30 (w64 (x31 + 1)) x2_0)) else (r8 x1 x6 x21 x22 x29 x30 (w64 (x31 + 1)) x2_0))) else (bif decide ((99 : Int) < x29.getD x31.toNat 0) then some false else (bif !decide (x6 = x31) then (bif decide (x29.getD x31.toNat 0 < (1 : Int)) then (bif x1 then (bif !(decide (x29.getD x31.toNat 0 = ((-1) : Int))) then some false else (r8 x1 x6 x21 x22 x29 x30 (w64 (x31 + 1)) x2_0)) else some false) else (r8 x1 x6 x21 x22 x29 x30 (w64 (x31 + 1)) x2_0)) else (r8 x1 x6 x21 x22 x29 x30 (w64 (x31 + 1)) x2_0)))) else none) else none)) else (if (0 : Int) ≤ x31 ∧ x31 < (x2_0.length : Int) then (if (0 : Int) ≤ x6 ∧ x6 < ((x2_0.getD x31.toNat []).length : Int) then (bif !decide (x29.getD x31.toNat 0 = (x2_0.getD x31.toNat []).getD x6.toNat 0) then (bif !decide (x29.getD x31.toNat 0 = (x2_0.getD x31.toNat []).getD x6.toNat 0) then some false else (bif !decide (x6 = x31) then (bif decide (x29.getD x31.toNat 0 < (1 : Int)) then (bif x1 then (bif !(decide (x29.getD x31.toNat 0 = ((-1) : Int))) then some false else (r8 x1 x6 x21 x22 x29 x30 (w64 (x31 + 1)) x2_0)) else some false) else (r8 x1 x6 x21 x22 x29 x30 (w64 (x31 + 1)) x2_0)) else (r8 x1 x6 x21 x22 x29 x30 (w64 (x31 + 1)) x2_0))) else (bif decide ((99 : Int) < x29.getD x31.toNat 0) then some false else (bif !decide (x6 = x31) then (bif decide (x29.getD x31.toNat 0 < (1 : Int)) then (bif x1 then (bif !(decide (x29.getD x31.toNat 0 = ((-1) : Int))) then some false else (r8 x1 x6 x21 x22 x29 x30 (w64 (x31 + 1)) x2_0)) else some false) else (r8 x1 x6 x21 x22 x29 x30 (w64 (x31 + 1)) x2_0)) else (r8 x1 x6 x21 x22 x29 x30 (w64 (x31 + 1)) x2_0)))) else none) else none)) else none) else (r5 x1 x21 (w64 (x22 + 1)) x2_0)
def impl_Metric_isTable.B (k : Nat) (r5 : Bool → Int → Int → List (List Int) → Option (Bool)) (r8 : Bool → Int → Int → Int → List Int → Int → Int → List (List Int) → Option (Bool)) (a0 : List (List Int)) (a1 : Bool) : Option (Bool) :=
  (impl_within.f (a0.length : Int) 1 6).bind fun t1 => (bif !t1 then some false else ((slices_ContainsFunc_at_Metric_isTable_1.f k a0 (a0.length : Int)).bind fun t2 => (bif t2 then some false else (r5 a1 (a0.length : Int) 0 a0))))
def impl_Metric_isTable.bs (k : Nat) : Nat → (Bool → Int → Int → List (List Int) → Option (Bool)) × (Bool → Int → Int → Int → List Int → Int → Int → List (List Int) → Option (Bool))
  | 0 => (fun _ _ _ _ => none, fun _ _ _ _ _ _ _ _ => none)
  | n + 1 => (impl_Metric_isTable.B5 k ((impl_Metric_isTable.bs k n).1) ((impl_Metric_isTable.bs k n).2), impl_Metric_isTable.B8 k ((impl_Metric_isTable.bs k n).1) ((impl_Metric_isTable.bs k n).2))
def impl_Metric_isTable.f (k : Nat) (a0 : List (List Int)) (a1 : Bool) : Option (Bool) := impl_Metric_isTable.B k ((impl_Metric_isTable.bs k k).1) ((impl_Metric_isTable.bs k k).2) a0 a1
def impl_Metric_isTable.ent : Ent := ⟨102, [.agg [.h (.list (.list (.int .i64)))], .h (.bool)], [], .h (.bool), [], 21⟩
abbrev impl_Metric_isTable.ts : List Ty := [.list (.list (.int .i64)), .bool]
abbrev impl_Metric_isTable.rs : List Ty := [.bool]
def impl_Metric_isTable.c5 : Cut := ⟨5, [(1, .h (.bool)), (2, .p 0), (21, .h (.int .i64)), (22, .h (.int .i64))], [.box [.h (.list (.list (.int .i64)))]]⟩
def impl_Metric_isTable.c8 : Cut := ⟨8, [(1, .h (.bool)), (2, .p 0), (6, .h (.int .i64)), (21, .h (.int .i64)), (22, .h (.int .i64)), (29, .h (.list (.int .i64))), (30, .h (.int .i64)), (31, .h (.int .i64))], [.box [.h (.list (.list (.int .i64)))]]⟩
noncomputable def impl_Metric_isTable.E (k : Nat) : Env :=
  ⟨tab, 74, impl_Metric_isTable.ent, impl_Metric_isTable.rs, [impl_within.ent, slices_ContainsFunc_at_Metric_isTable_1.ent], ctOf [(16, mkF impl_within.ts impl_within.rs fun a => impl_within.f a.1 a.2.1 a.2.2),
    (20, mkF slices_ContainsFunc_at_Metric_isTable_1.ts slices_ContainsFunc_at_Metric_isTable_1.rs fun a => slices_ContainsFunc_at_Metric_isTable_1.f k a.1 a.2)], [impl_Metric_isTable.c5, impl_Metric_isTable.c8], [.tmp 4]⟩
noncomputable def impl_Metric_isTable.S5 : List Item := stk (bodyOf Try.f102) 5
noncomputable def impl_Metric_isTable.m5 (x1 : Bool) (x21 : Int) (x22 : Int) (x2_0 : List (List Int)) : St := mkS impl_Metric_isTable.c5 [.v (.bool) x1, .v (.int .i64) x21, .v (.int .i64) x22, .v (.list (.list (.int .i64))) x2_0]
noncomputable def impl_Metric_isTable.S8 : List Item := stk (bodyOf Try.f102) 8
noncomputable def impl_Metric_isTable.m8 (x1 : Bool) (x6 : Int) (x21 : Int) (x22 : Int) (x29 : List Int) (x30 : Int) (x31 : Int) (x2_0 : List (List Int)) : St := mkS impl_Metric_isTable.c8 [.v (.bool) x1, .v (.int .i64) x6, .v (.int .i64) x21, .v (.int .i64) x22, .v (.list (.int .i64)) x29, .v (.int .i64) x30, .v (.int .i64) x31, .v (.list (.list (.int .i64))) x2_0]
theorem impl_Metric_isTable.h5 (k : Nat) (R : List Item → St → Option (PD impl_Metric_isTable.rs)) (x1 : Bool) (x21 : Int) (x22 : Int) (x2_0 : List (List Int)) : run (impl_Metric_isTable.E k) R 4000 true impl_Metric_isTable.S5 (impl_Metric_isTable.m5 x1 x21 x22 x2_0) = impl_Metric_isTable.B5 k (fun x1 x21 x22 x2_0 => R impl_Metric_isTable.S5 (impl_Metric_isTable.m5 x1 x21 x22 x2_0)) (fun x1 x6 x21 x22 x29 x30 x31 x2_0 => R impl_Metric_isTable.S8 (impl_Metric_isTable.m8 x1 x6 x21 x22 x29 x30 x31 x2_0)) x1 x21 x22 x2_0 := by kernel_rfl
theorem impl_Metric_isTable.h8 (k : Nat) (R : List Item → St → Option (PD impl_Metric_isTable.rs)) (x1 : Bool) (x6 : Int) (x21 : Int) (x22 : Int) (x29 : List Int) (x30 : Int) (x31 : Int) (x2_0 : List (List Int)) : run (impl_Metric_isTable.E k) R 4000 true impl_Metric_isTable.S8 (impl_Metric_isTable.m8 x1 x6 x21 x22 x29 x30 x31 x2_0) = impl_Metric_isTable.B8 k (fun x1 x21 x22 x2_0 => R impl_Metric_isTable.S5 (impl_Metric_isTable.m5 x1 x21 x22 x2_0)) (fun x1 x6 x21 x22 x29 x30 x31 x2_0 => R impl_Metric_isTable.S8 (impl_Metric_isTable.m8 x1 x6 x21 x22 x29 x30 x31 x2_0)) x1 x6 x21 x22 x29 x30 x31 x2_0 := by kernel_rfl
theorem impl_Metric_isTable.h (k : Nat) (R : List Item → St → Option (PD impl_Metric_isTable.rs)) (a0 : List (List Int)) (a1 : Bool) : run (impl_Metric_isTable.E k) R 4000 true [.code (bodyOf Try.f102)] (stA (impl_Metric_isTable.E k) [.v (.list (.list (.int .i64))) a0, .v (.bool) a1]) = impl_Metric_isTable.B k (fun x1 x21 x22 x2_0 => R impl_Metric_isTable.S5 (impl_Metric_isTable.m5 x1 x21 x22 x2_0)) (fun x1 x6 x21 x22 x29 x30 x31 x2_0 => R impl_Metric_isTable.S8 (impl_Metric_isTable.m8 x1 x6 x21 x22 x29 x30 x31 x2_0)) a0 a1 := by kernel_rfl
theorem impl_Metric_isTable.eok (k : Nat) : EOk Try.prog (impl_Metric_isTable.E k) Try.f102 :=
  ⟨Try.func102, Try.ntmps102, by kernel_rfl, tab_ok, mixed, cuts_of (by kernel_rfl), Tab.ok (.cons (impl_within.ok) (by kernel_rfl) (.cons (slices_ContainsFunc_at_Metric_isTable_1.ok k) (by kernel_rfl) .nil)), by kernel_rfl⟩
theorem impl_Metric_isTable.ff (k : Nat) : ∀ n : Nat, ((fun x1 x21 x22 x2_0 => FF (impl_Metric_isTable.E k) n impl_Metric_isTable.S5 (impl_Metric_isTable.m5 x1 x21 x22 x2_0)), (fun x1 x6 x21 x22 x29 x30 x31 x2_0 => FF (impl_Metric_isTable.E k) n impl_Metric_isTable.S8 (impl_Metric_isTable.m8 x1 x6 x21 x22 x29 x30 x31 x2_0))) = impl_Metric_isTable.bs k n
  | 0 => rfl
  | n + 1 => by
    show ((fun x1 x21 x22 x2_0 => FF (impl_Metric_isTable.E k) (n + 1) impl_Metric_isTable.S5 (impl_Metric_isTable.m5 x1 x21 x22 x2_0)), (fun x1 x6 x21 x22 x29 x30 x31 x2_0 => FF (impl_Metric_isTable.E k) (n + 1) impl_Metric_isTable.S8 (impl_Metric_isTable.m8 x1 x6 x21 x22 x29 x30 x31 x2_0))) = (impl_Metric_isTable.B5 k ((impl_Metric_isTable.bs k n).1) ((impl_Metric_isTable.bs k n).2), impl_Metric_isTable.B8 k ((impl_Metric_isTable.bs k n).1) ((impl_Metric_isTable.bs k n).2))
    rw [← impl_Metric_isTable.ff k n]
    exact (Prod.ext (funext fun x1 => funext fun x21 => funext fun x22 => funext fun x2_0 => by dsimp only; exact (FF_succ ..).trans (impl_Metric_isTable.h5 k (fun t s => FF (impl_Metric_isTable.E k) n t s) x1 x21 x22 x2_0)) (funext fun x1 => funext fun x6 => funext fun x21 => funext fun x22 => funext fun x29 => funext fun x30 => funext fun x31 => funext fun x2_0 => by dsimp only; exact (FF_succ ..).trans (impl_Metric_isTable.h8 k (fun t s => FF (impl_Metric_isTable.E k) n t s) x1 x6 x21 x22 x29 x30 x31 x2_0)))
theorem impl_Metric_isTable.run (k : Nat) (a0 : List (List Int)) (a1 : Bool): FF (impl_Metric_isTable.E k) (k + 1) [.code (bodyOf Try.f102)] (stA (impl_Metric_isTable.E k) [.v (.list (.list (.int .i64))) a0, .v (.bool) a1]) = impl_Metric_isTable.f k a0 a1 :=
  (FF_succ ..).trans ((impl_Metric_isTable.h k (fun t s => FF (impl_Metric_isTable.E k) k t s) a0 a1).trans (by
    show _ = impl_Metric_isTable.B k ((impl_Metric_isTable.bs k k).1) ((impl_Metric_isTable.bs k k).2) a0 a1
    rw [← impl_Metric_isTable.ff k k]))
theorem impl_Metric_isTable.ok (k : Nat) : FnOK Try.prog impl_Metric_isTable.ent impl_Metric_isTable.ts impl_Metric_isTable.rs fun a => impl_Metric_isTable.f k a.1 a.2 :=
  ⟨hasBody_of Try.func102 (by kernel_rfl), by kernel_rfl, by kernel_rfl, fun a r hr => good_of (E := (impl_Metric_isTable.E k)) (k := (k + 1)) (xs := encL impl_Metric_isTable.ts a) (impl_Metric_isTable.eok k) (body := (bodyOf Try.f102)) (by kernel_rfl) (by kernel_rfl) ((impl_Metric_isTable.run k a.1 a.2).trans hr)⟩

def impl_Metric_detour.B2 (k : Nat) (r2 : List (List Int) → Int → Int → List (List Int) → Option (Bool × List Int)) (r5 : Int → List Int → List (List Int) → Int → Int → List Int → Int → Int → List (List Int) → Option (Bool × List Int)) (r8 : Int → List Int → Int → Int → List (List Int) → Int → Int → List Int → Int → Int → Int → Int → List (List Int) → Option (Bool × List Int)) (x10 : List (List Int)) (x11 : Int) (x12 : Int) (x1_0 : List (List Int)) : Option (Bool × List Int) :=
  bif decide (x12 < x11) then (if (0 : Int) ≤ x12 ∧ x12 < (x10.length : Int) then (r5 x12 (x10.getD x12.toNat []) x10 x11 x12 (x10.getD x12.toNat []) ((x10.getD x12.toNat []).length : Int) 0 x1_0) else none) else some (false, [])
def impl_Metric_detour.B5 (k : Nat) (r2 : List (List Int) → Int → Int → List (List Int) → Option (Bool × List Int)) (r5 : Int → List Int → List (List Int) → Int → Int → List Int → Int → Int → List (List Int) → Option (Bool × List Int)) (r8 : Int → List Int → Int → Int → List (List Int) → Int → Int → List Int → Int → Int → Int → Int → List (List Int) → Option (Bool × List Int)) (x4 : Int) (x5 : List Int) (x10 : List (List Int)) (x11 : Int) (x12 : Int) (x17 : List Int) (x18 : Int) (x19 : Int) (x1_0 : List (List Int)) : Option (Bool × List Int) :=
  bif decide (x19 < x18) then (if (0 : Int) ≤ x19 ∧ x19 < (x17.length : Int) then (r8 x4 x5 x19 (x17.getD x19.toNat 0) x10 x11 x12 x17 x18 x19 (x1_0.length : Int) 0 x1_0) else none) else (r2 x10 x11 (w64 (x12 + 1)) x1_0)
def impl_Metric_detour.B8 (k : Nat) (r2 : List (List Int) → Int → Int → List (List Int) → Option (Bool × List Int)) (r5 : Int → List Int → List (List Int) → Int → Int → List Int → Int → Int → List (List Int) → Option (Bool × List Int)) (r8 : Int → List Int → Int → Int → List (List Int) → Int → Int → List Int → Int → Int → Int → Int → List (List Int) → Option (Bool × List Int)) (x4 : Int) (x5 : List Int) (x6 : Int) (x7 : Int) (x10 : List (List Int)) (x11 : Int) (x12 : Int) (x17 : List Int) (x18 : Int) (x19 : Int) (x26 : Int) (x27 : Int) (x1_0 : List (List Int)) : Option (Bool × List Int) :=
  bif decide (x27 < x26) then (if (0 : Int) ≤ x27 ∧ x27 < (x5.length : Int) then (if (0 : Int) ≤ x6 ∧ x6 < (x1_0.length : Int) then (if (0 : Int) ≤ x27 ∧ x27 < ((x1_0.getD x6.toNat []).length : Int) then (bif decide (w64 (x7 + ((x1_0.getD x6.toNat []).getD x27.toNat 0)) < x5.getD x27.toNat 0) then some (true, [x4, x6, x27]) else (r8 x4 x5 x6 x7 x10 x11 x12 x17 x18 x19 x26 (w64 (x27 + 1)) x1_0)) else none) else none) else none) else (r5 x4 x5 x10 x11 x12 x17 x18 (w64 (x19 + 1)) x1_0)
def impl_Metric_detour.B (k : Nat) (r2 : List (List Int) → Int → Int → List (List Int) → Option (Bool × List Int)) (r5 : Int → List Int → List (List Int) → Int → Int → List Int → Int → Int → List (List Int) → Option (Bool × List Int)) (r8 : Int → List Int → Int → Int → List (List Int) → Int → Int → List Int → Int → Int → Int → Int → List (List Int) → Option (Bool × List Int)) (a0 : List (List Int)) : Option (Bool × List Int) :=
  r2 a0 (a0.length : Int) 0 a0
def impl_Metric_detour.bs (k : Nat) : Nat → (List (List Int) → Int → Int → List (List Int) → Option (Bool × List Int)) × (Int → List Int → List (List Int) → Int → Int → List Int → Int → Int → List (List Int) → Option (Bool × List Int)) × (Int → List Int → Int → Int → List (List Int) → Int → Int → List Int → Int → Int → Int → Int → List (List Int) → Option (Bool × List Int))
  | 0 => (fun _ _ _ _ => none, fun _ _ _ _ _ _ _ _ _ => none, fun _ _ _ _ _ _ _ _ _ _ _ _ _ => none)
  | n + 1 => (impl_Metric_detour.B2 k ((impl_Metric_detour.bs k n).1) ((impl_Metric_detour.bs k n).2.1) ((impl_Metric_detour.bs k n).2.2), impl_Metric_detour.B5 k ((impl_Metric_detour.bs k n).1) ((impl_Metric_detour.bs k n).2.1) ((impl_Metric_detour.bs k n).2.2), impl_Metric_detour.B8 k ((impl_Metric_detour.bs k n).1) ((impl_Metric_detour.bs k n).2.1) ((impl_Metric_detour.bs k n).2.2))
def impl_Metric_detour.f (k : Nat) (a0 : List (List Int)) : Option (Bool × List Int) := impl_Metric_detour.B k ((impl_Metric_detour.bs k k).1) ((impl_Metric_detour.bs k k).2.1) ((impl_Metric_detour.bs k k).2.2) a0
def impl_Metric_detour.ent : Ent := ⟨103, [.agg [.h (.list (.list (.int .i64)))]], [], .tup [.own 0 (.int .i64), .h (.bool)], [.buf (.int .i64)], 22⟩
abbrev impl_Metric_detour.ts : List Ty := [.list (.list (.int .i64))]
abbrev impl_Metric_detour.rs : List Ty := [.bool, .list (.int .i64)]
def impl_Metric_detour.c2 : Cut := ⟨2, [(1, .p 0), (10, .h (.list (.list (.int .i64)))), (11, .h (.int .i64)), (12, .h (.int .i64))], [.box [.h (.list (.list (.int .i64)))]]⟩
def impl_Metric_detour.c5 : Cut := ⟨5, [(1, .p 0), (4, .h (.int .i64)), (5, .h (.list (.int .i64))), (10, .h (.list (.list (.int .i64)))), (11, .h (.int .i64)), (12, .h (.int .i64)), (17, .h (.list (.int .i64))), (18, .h (.int .i64)), (19, .h (.int .i64))], [.box [.h (.list (.list (.int .i64)))]]⟩
def impl_Metric_detour.c8 : Cut := ⟨8, [(1, .p 0), (4, .h (.int .i64)), (5, .h (.list (.int .i64))), (6, .h (.int .i64)), (7, .h (.int .i64)), (10, .h (.list (.list (.int .i64)))), (11, .h (.int .i64)), (12, .h (.int .i64)), (17, .h (.list (.int .i64))), (18, .h (.int .i64)), (19, .h (.int .i64)), (26, .h (.int .i64)), (27, .h (.int .i64))], [.box [.h (.list (.list (.int .i64)))]]⟩
noncomputable def impl_Metric_detour.E (k : Nat) : Env :=
  ⟨tab, 52, impl_Metric_detour.ent, impl_Metric_detour.rs, [], ctOf [], [impl_Metric_detour.c2, impl_Metric_detour.c5, impl_Metric_detour.c8], [.tmp 2, .tmp 3]⟩
noncomputable def impl_Metric_detour.S2 : List Item := stk (bodyOf Try.f103) 2
noncomputable def impl_Metric_detour.m2 (x10 : List (List Int)) (x11 : Int) (x12 : Int) (x1_0 : List (List Int)) : St := mkS impl_Metric_detour.c2 [.v (.list (.list (.int .i64))) x10, .v (.int .i64) x11, .v (.int .i64) x12, .v (.list (.list (.int .i64))) x1_0]
noncomputable def impl_Metric_detour.S5 : List Item := stk (bodyOf Try.f103) 5
noncomputable def impl_Metric_detour.m5 (x4 : Int) (x5 : List Int) (x10 : List (List Int)) (x11 : Int) (x12 : Int) (x17 : List Int) (x18 : Int) (x19 : Int) (x1_0 : List (List Int)) : St := mkS impl_Metric_detour.c5 [.v (.int .i64) x4, .v (.list (.int .i64)) x5, .v (.list (.list (.int .i64))) x10, .v (.int .i64) x11, .v (.int .i64) x12, .v (.list (.int .i64)) x17, .v (.int .i64) x18, .v (.int .i64) x19, .v (.list (.list (.int .i64))) x1_0]
noncomputable def impl_Metric_detour.S8 : List Item := stk (bodyOf Try.f103) 8
noncomputable def impl_Metric_detour.m8 (x4 : Int) (x5 : List Int) (x6 : Int) (x7 : Int) (x10 : List (List Int)) (x11 : Int) (x12 : Int) (x17 : List Int) (x18 : Int) (x19 : Int) (x26 : Int) (x27 : Int) (x1_0 : List (List Int)) : St := mkS impl_Metric_detour.c8 [.v (.int .i64) x4, .v (.list (.int .i64)) x5, .v (.int .i64) x6, .v (.int .i64) x7, .v (.list (.list (.int .i64))) x10, .v (.int .i64) x11, .v (.int .i64) x12, .v (.list (.int .i64)) x17, .v (.int .i64) x18, .v (.int .i64) x19, .v (.int .i64) x26, .v (.int .i64) x27, .v (.list (.list (.int .i64))) x1_0]
theorem impl_Metric_detour.h2 (k : Nat) (R : List Item → St → Option (PD impl_Metric_detour.rs)) (x10 : List (List Int)) (x11 : Int) (x12 : Int) (x1_0 : List (List Int)) : run (impl_Metric_detour.E k) R 4000 true impl_Metric_detour.S2 (impl_Metric_detour.m2 x10 x11 x12 x1_0) = impl_Metric_detour.B2 k (fun x10 x11 x12 x1_0 => R impl_Metric_detour.S2 (impl_Metric_detour.m2 x10 x11 x12 x1_0)) (fun x4 x5 x10 x11 x12 x17 x18 x19 x1_0 => R impl_Metric_detour.S5 (impl_Metric_detour.m5 x4 x5 x10 x11 x12 x17 x18 x19 x1_0)) (fun x4 x5 x6 x7 x10 x11 x12 x17 x18 x19 x26 x27 x1_0 => R impl_Metric_detour.S8 (impl_Metric_detour.m8 x4 x5 x6 x7 x10 x11 x12 x17 x18 x19 x26 x27 x1_0)) x10 x11 x12 x1_0 := by kernel_rfl
theorem impl_Metric_detour.h5 (k : Nat) (R : List Item → St → Option (PD impl_Metric_detour.rs)) (x4 : Int) (x5 : List Int) (x10 : List (List Int)) (x11 : Int) (x12 : Int) (x17 : List Int) (x18 : Int) (x19 : Int) (x1_0 : List (List Int)) : run (impl_Metric_detour.E k) R 4000 true impl_Metric_detour.S5 (impl_Metric_detour.m5 x4 x5 x10 x11 x12 x17 x18 x19 x1_0) = impl_Metric_detour.B5 k (fun x10 x11 x12 x1_0 => R impl_Metric_detour.S2 (impl_Metric_detour.m2 x10 x11 x12 x1_0)) (fun x4 x5 x10 x11 x12 x17 x18 x19 x1_0 => R impl_Metric_detour.S5 (impl_Metric_detour.m5 x4 x5 x10 x11 x12 x17 x18 x19 x1_0)) (fun x4 x5 x6 x7 x10 x11 x12 x17 x18 x19 x26 x27 x1_0 => R impl_Metric_detour.S8 (impl_Metric_detour.m8 x4 x5 x6 x7 x10 x11 x12 x17 x18 x19 x26 x27 x1_0)) x4 x5 x10 x11 x12 x17 x18 x19 x1_0 := by kernel_rfl
theorem impl_Metric_detour.h8 (k : Nat) (R : List Item → St → Option (PD impl_Metric_detour.rs)) (x4 : Int) (x5 : List Int) (x6 : Int) (x7 : Int) (x10 : List (List Int)) (x11 : Int) (x12 : Int) (x17 : List Int) (x18 : Int) (x19 : Int) (x26 : Int) (x27 : Int) (x1_0 : List (List Int)) : run (impl_Metric_detour.E k) R 4000 true impl_Metric_detour.S8 (impl_Metric_detour.m8 x4 x5 x6 x7 x10 x11 x12 x17 x18 x19 x26 x27 x1_0) = impl_Metric_detour.B8 k (fun x10 x11 x12 x1_0 => R impl_Metric_detour.S2 (impl_Metric_detour.m2 x10 x11 x12 x1_0)) (fun x4 x5 x10 x11 x12 x17 x18 x19 x1_0 => R impl_Metric_detour.S5 (impl_Metric_detour.m5 x4 x5 x10 x11 x12 x17 x18 x19 x1_0)) (fun x4 x5 x6 x7 x10 x11 x12 x17 x18 x19 x26 x27 x1_0 => R impl_Metric_detour.S8 (impl_Metric_detour.m8 x4 x5 x6 x7 x10 x11 x12 x17 x18 x19 x26 x27 x1_0)) x4 x5 x6 x7 x10 x11 x12 x17 x18 x19 x26 x27 x1_0 := by kernel_rfl
theorem impl_Metric_detour.h (k : Nat) (R : List Item → St → Option (PD impl_Metric_detour.rs)) (a0 : List (List Int)) : run (impl_Metric_detour.E k) R 4000 true [.code (bodyOf Try.f103)] (stA (impl_Metric_detour.E k) [.v (.list (.list (.int .i64))) a0]) = impl_Metric_detour.B k (fun x10 x11 x12 x1_0 => R impl_Metric_detour.S2 (impl_Metric_detour.m2 x10 x11 x12 x1_0)) (fun x4 x5 x10 x11 x12 x17 x18 x19 x1_0 => R impl_Metric_detour.S5 (impl_Metric_detour.m5 x4 x5 x10 x11 x12 x17 x18 x19 x1_0)) (fun x4 x5 x6 x7 x10 x11 x12 x17 x18 x19 x26 x27 x1_0 => R impl_Metric_detour.S8 (impl_Metric_detour.m8 x4 x5 x6 x7 x10 x11 x12 x17 x18 x19 x26 x27 x1_0)) a0 := by kernel_rfl
theorem impl_Metric_detour.eok (k : Nat) : EOk Try.prog (impl_Metric_detour.E k) Try.f103 :=
  ⟨Try.func103, Try.ntmps103, by kernel_rfl, tab_ok, mixed, cuts_of (by kernel_rfl), Tab.ok .nil, by kernel_rfl⟩
theorem impl_Metric_detour.ff (k : Nat) : ∀ n : Nat, ((fun x10 x11 x12 x1_0 => FF (impl_Metric_detour.E k) n impl_Metric_detour.S2 (impl_Metric_detour.m2 x10 x11 x12 x1_0)), (fun x4 x5 x10 x11 x12 x17 x18 x19 x1_0 => FF (impl_Metric_detour.E k) n impl_Metric_detour.S5 (impl_Metric_detour.m5 x4 x5 x10 x11 x12 x17 x18 x19 x1_0)), (fun x4 x5 x6 x7 x10 x11 x12 x17 x18 x19 x26 x27 x1_0 => FF (impl_Metric_detour.E k) n impl_Metric_detour.S8 (impl_Metric_detour.m8 x4 x5 x6 x7 x10 x11 x12 x17 x18 x19 x26 x27 x1_0))) = impl_Metric_detour.bs k n
  | 0 => rfl
  | n + 1 => by
    show ((fun x10 x11 x12 x1_0 => FF (impl_Metric_detour.E k) (n + 1) impl_Metric_detour.S2 (impl_Metric_detour.m2 x10 x11 x12 x1_0)), (fun x4 x5 x10 x11 x12 x17 x18 x19 x1_0 => FF (impl_Metric_detour.E k) (n + 1) impl_Metric_detour.S5 (impl_Metric_detour.m5 x4 x5 x10 x11 x12 x17 x18 x19 x1_0)), (fun x4 x5 x6 x7 x10 x11 x12 x17 x18 x19 x26 x27 x1_0 => FF (impl_Metric_detour.E k) (n + 1) impl_Metric_detour.S8 (impl_Metric_detour.m8 x4 x5 x6 x7 x10 x11 x12 x17 x18 x19 x26 x27 x1_0))) = (impl_Metric_detour.B2 k ((impl_Metric_detour.bs k n).1) ((impl_Metric_detour.bs k n).2.1) ((impl_Metric_detour.bs k n).2.2), impl_Metric_detour.B5 k ((impl_Metric_detour.bs k n).1) ((impl_Metric_detour.bs k n).2.1) ((impl_Metric_detour.bs k n).2.2), impl_Metric_detour.B8 k ((impl_Metric_detour.bs k n).1) ((impl_Metric_detour.bs k n).2.1) ((impl_Metric_detour.bs k n).2.2))
    rw [← impl_Metric_detour.ff k n]
    exact (Prod.ext (funext fun x10 => funext fun x11 => funext fun x12 => funext fun x1_0 => by dsimp only; exact (FF_succ ..).trans (impl_Metric_detour.h2 k (fun t s => FF (impl_Metric_detour.E k) n t s) x10 x11 x12 x1_0)) (Prod.ext (funext fun x4 => funext fun x5 => funext fun x10 => funext fun x11 => funext fun x12 => funext fun x17 => funext fun x18 => funext fun x19 => funext fun x1_0 => by dsimp only; exact (FF_succ ..).trans (impl_Metric_detour.h5 k (fun t s => FF (impl_Metric_detour.E k) n t s) x4 x5 x10 x11 x12 x17 x18 x19 x1_0)) (funext fun x4 => funext fun x5 => funext fun x6 => funext fun x7 => funext fun x10 => funext fun x11 => funext fun x12 => funext fun x17 => funext fun x18 => funext fun x19 => funext fun x26 => funext fun x27 => funext fun x1_0 => by dsimp only; exact (FF_succ ..).trans (impl_Metric_detour.h8 k (fun t s => FF (impl_Metric_detour.E k) n t s) x4 x5 x6 x7 x10 x11 x12 x17 x18 x19 x26 x27 x1_0))))
theorem impl_Metric_detour.run (k : Nat) (a0 : List (List Int)): FF (impl_Metric_detour.E k) (k + 1) [.code (bodyOf Try.f103)] (stA (impl_Metric_detour.E k) [.v (.list (.list (.int .i64))) a0]) = impl_Metric_detour.f k a0 :=
  (FF_succ ..).trans ((impl_Metric_detour.h k (fun t s => FF (impl_Metric_detour.E k) k t s) a0).trans (by
    show _ = impl_Metric_detour.B k ((impl_Metric_detour.bs k k).1) ((impl_Metric_detour.bs k k).2.1) ((impl_Metric_detour.bs k k).2.2) a0
    rw [← impl_Metric_detour.ff k k]))
theorem impl_Metric_detour.ok (k : Nat) : FnOK Try.prog impl_Metric_detour.ent impl_Metric_detour.ts impl_Metric_detour.rs fun a => impl_Metric_detour.f k a :=
  ⟨hasBody_of Try.func103 (by kernel_rfl), by kernel_rfl, by kernel_rfl, fun a r hr => good_of (E := (impl_Metric_detour.E k)) (k := (k + 1)) (xs := encL impl_Metric_detour.ts a) (impl_Metric_detour.eok k) (body := (bodyOf Try.f103)) (by kernel_rfl) (by kernel_rfl) ((impl_Metric_detour.run k a).trans hr)⟩

def impl_IsMetric.B (k : Nat) (a0 : List (List Int)) : Option (Bool) :=
  (impl_Metric_isTable.f k a0 false).bind fun t1 => (bif !t1 then some false else ((impl_Metric_detour.f k a0).bind fun t2 => some (!t2.1)))
def impl_IsMetric.f (k : Nat) (a0 : List (List Int)) : Option (Bool) := impl_IsMetric.B k a0
def impl_IsMetric.ent : Ent := ⟨85, [.agg [.h (.list (.list (.int .i64)))]], [], .h (.bool), [], 23⟩
abbrev impl_IsMetric.ts : List Ty := [.list (.list (.int .i64))]
abbrev impl_IsMetric.rs : List Ty := [.bool]
noncomputable def impl_IsMetric.E (k : Nat) : Env :=
  ⟨tab, 15, impl_IsMetric.ent, impl_IsMetric.rs, [impl_Metric_isTable.ent, impl_Metric_detour.ent], ctOf [(21, mkF impl_Metric_isTable.ts impl_Metric_isTable.rs fun a => impl_Metric_isTable.f k a.1 a.2),
    (22, mkF impl_Metric_detour.ts impl_Metric_detour.rs fun a => impl_Metric_detour.f k a)], [], [.tmp 2]⟩
theorem impl_IsMetric.h (k : Nat) (R : List Item → St → Option (PD impl_IsMetric.rs)) (a0 : List (List Int)) : run (impl_IsMetric.E k) R 4000 true [.code (bodyOf Try.f85)] (stA (impl_IsMetric.E k) [.v (.list (.list (.int .i64))) a0]) = impl_IsMetric.B k a0 := by kernel_rfl
theorem impl_IsMetric.eok (k : Nat) : EOk Try.prog (impl_IsMetric.E k) Try.f85 :=
  ⟨Try.func85, Try.ntmps85, by kernel_rfl, tab_ok, mixed, cuts_of (by kernel_rfl), Tab.ok (.cons (impl_Metric_isTable.ok k) (by kernel_rfl) (.cons (impl_Metric_detour.ok k) (by kernel_rfl) .nil)), by kernel_rfl⟩
theorem impl_IsMetric.run (k : Nat) (a0 : List (List Int)): FF (impl_IsMetric.E k) 1 [.code (bodyOf Try.f85)] (stA (impl_IsMetric.E k) [.v (.list (.list (.int .i64))) a0]) = impl_IsMetric.f k a0 :=
  (FF_succ ..).trans (impl_IsMetric.h k (fun t s => FF (impl_IsMetric.E k) 0 t s) a0)
theorem impl_IsMetric.ok (k : Nat) : FnOK Try.prog impl_IsMetric.ent impl_IsMetric.ts impl_IsMetric.rs fun a => impl_IsMetric.f k a :=
  ⟨hasBody_of Try.func85 (by kernel_rfl), by kernel_rfl, by kernel_rfl, fun a r hr => good_of (E := (impl_IsMetric.E k)) (k := 1) (xs := encL impl_IsMetric.ts a) (impl_IsMetric.eok k) (body := (bodyOf Try.f85)) (by kernel_rfl) (by kernel_rfl) ((impl_IsMetric.run k a).trans hr)⟩

def impl_IsProblem_1_1.B (a0 : Int) : Option (Bool) :=
  (impl_within.f a0 (-1) 20).bind fun t1 => some (!t1)
def impl_IsProblem_1_1.f (a0 : Int) : Option (Bool) := impl_IsProblem_1_1.B a0
def impl_IsProblem_1_1.ent : Ent := ⟨89, [.h (.int .i64)], [], .h (.bool), [], 24⟩
abbrev impl_IsProblem_1_1.ts : List Ty := [.int .i64]
abbrev impl_IsProblem_1_1.rs : List Ty := [.bool]
noncomputable def impl_IsProblem_1_1.E : Env :=
  ⟨tab, 6, impl_IsProblem_1_1.ent, impl_IsProblem_1_1.rs, [impl_within.ent], ctOf [(16, mkF impl_within.ts impl_within.rs fun a => impl_within.f a.1 a.2.1 a.2.2)], [], [.tmp 2]⟩
theorem impl_IsProblem_1_1.h (R : List Item → St → Option (PD impl_IsProblem_1_1.rs)) (a0 : Int) : run (impl_IsProblem_1_1.E) R 4000 true [.code (bodyOf Try.f89)] (stA (impl_IsProblem_1_1.E) [.v (.int .i64) a0]) = impl_IsProblem_1_1.B a0 := by kernel_rfl
theorem impl_IsProblem_1_1.eok : EOk Try.prog (impl_IsProblem_1_1.E) Try.f89 :=
  ⟨Try.func89, Try.ntmps89, by kernel_rfl, tab_ok, mixed, cuts_of (by kernel_rfl), Tab.ok (.cons (impl_within.ok) (by kernel_rfl) .nil), by kernel_rfl⟩
theorem impl_IsProblem_1_1.run (a0 : Int): FF (impl_IsProblem_1_1.E) 1 [.code (bodyOf Try.f89)] (stA (impl_IsProblem_1_1.E) [.v (.int .i64) a0]) = impl_IsProblem_1_1.f a0 :=
  (FF_succ ..).trans (impl_IsProblem_1_1.h (fun t s => FF (impl_IsProblem_1_1.E) 0 t s) a0)
theorem impl_IsProblem_1_1.ok : FnOK Try.prog impl_IsProblem_1_1.ent impl_IsProblem_1_1.ts impl_IsProblem_1_1.rs fun a => impl_IsProblem_1_1.f a :=
  ⟨hasBody_of Try.func89 (by kernel_rfl), by kernel_rfl, by kernel_rfl, fun a r hr => good_of (E := (impl_IsProblem_1_1.E)) (k := 1) (xs := encL impl_IsProblem_1_1.ts a) (impl_IsProblem_1_1.eok) (body := (bodyOf Try.f89)) (by kernel_rfl) (by kernel_rfl) ((impl_IsProblem_1_1.run a).trans hr)⟩

def slices_IndexFunc_at_IsProblem_1_1.B2 (k : Nat) (r2 : List Int → Int → Int → Option (Int)) (x0 : List Int) (x7 : Int) (x8 : Int) : Option (Int) :=
  bif decide (x8 < x7) then (if (0 : Int) ≤ x8 ∧ x8 < (x0.length : Int) then ((impl_IsProblem_1_1.f (x0.getD x8.toNat 0)).bind fun t1 => (bif t1 then some x8 else (r2 x0 x7 (w64 (x8 + 1))))) else none) else some (-1)
def slices_IndexFunc_at_IsProblem_1_1.B (k : Nat) (r2 : List Int → Int → Int → Option (Int)) (a0 : List Int) : Option (Int) :=
  r2 a0 (a0.length : Int) 0
def slices_IndexFunc_at_IsProblem_1_1.bs (k : Nat) : Nat → (List Int → Int → Int → Option (Int))
  | 0 => (fun _ _ _ => none)
  | n + 1 => (slices_IndexFunc_at_IsProblem_1_1.B2 k ((slices_IndexFunc_at_IsProblem_1_1.bs k n)))
def slices_IndexFunc_at_IsProblem_1_1.f (k : Nat) (a0 : List Int) : Option (Int) := slices_IndexFunc_at_IsProblem_1_1.B k ((slices_IndexFunc_at_IsProblem_1_1.bs k k)) a0
def slices_IndexFunc_at_IsProblem_1_1.ent : Ent := ⟨100, [.h (.list (.int .i64)), .fn 89 [] []], [], .h (.int .i64), [], 25⟩
abbrev slices_IndexFunc_at_IsProblem_1_1.ts : List Ty := [.list (.int .i64)]
abbrev slices_IndexFunc_at_IsProblem_1_1.rs : List Ty := [.int .i64]
def slices_IndexFunc_at_IsProblem_1_1.c2 : Cut := ⟨2, [(0, .h (.list (.int .i64))), (1, .fn 89 [] []), (7, .h (.int .i64)), (8, .h (.int .i64))], []⟩
noncomputable def slices_IndexFunc_at_IsProblem_1_1.E (k : Nat) : Env :=
  ⟨tab, 19, slices_IndexFunc_at_IsProblem_1_1.ent, slices_IndexFunc_at_IsProblem_1_1.rs, [impl_IsProblem_1_1.ent], ctOf [(24, mkF impl_IsProblem_1_1.ts impl_IsProblem_1_1.rs fun a => impl_IsProblem_1_1.f a)], [slices_IndexFunc_at_IsProblem_1_1.c2], [.tmp 4]⟩
noncomputable def slices_IndexFunc_at_IsProblem_1_1.S2 : List Item := stk (bodyOf Try.f100) 2
noncomputable def slices_IndexFunc_at_IsProblem_1_1.m2 (x0 : List Int) (x7 : Int) (x8 : Int) : St := mkS slices_IndexFunc_at_IsProblem_1_1.c2 [.v (.list (.int .i64)) x0, .v (.int .i64) x7, .v (.int .i64) x8]
theorem slices_IndexFunc_at_IsProblem_1_1.h2 (k : Nat) (R : List Item → St → Option (PD slices_IndexFunc_at_IsProblem_1_1.rs)) (x0 : List Int) (x7 : Int) (x8 : Int) : run (slices_IndexFunc_at_IsProblem_1_1.E k) R 4000 true slices_IndexFunc_at_IsProblem_1_1.S2 (slices_IndexFunc_at_IsProblem_1_1.m2 x0 x7 x8) = slices_IndexFunc_at_IsProblem_1_1.B2 k (fun x0 x7 x8 => R slices_IndexFunc_at_IsProblem_1_1.S2 (slices_IndexFunc_at_IsProblem_1_1.m2 x0 x7 x8)) x0 x7 x8 := by kernel_rfl
theorem slices_IndexFunc_at_IsProblem_1_1.h (k : Nat) (R : List Item → St → Option (PD slices_IndexFunc_at_IsProblem_1_1.rs)) (a0 : List Int) : run (slices_IndexFunc_at_IsProblem_1_1.E k) R 4000 true [.code (bodyOf Try.f100)] (stA (slices_IndexFunc_at_IsProblem_1_1.E k) [.v (.list (.int .i64)) a0]) = slices_IndexFunc_at_IsProblem_1_1.B k (fun x0 x7 x8 => R slices_IndexFunc_at_IsProblem_1_1.S2 (slices_IndexFunc_at_IsProblem_1_1.m2 x0 x7 x8)) a0 := by kernel_rfl
theorem slices_IndexFunc_at_IsProblem_1_1.eok (k : Nat) : EOk Try.prog (slices_IndexFunc_at_IsProblem_1_1.E k) Try.f100 :=
  ⟨Try.func100, Try.ntmps100, by kernel_rfl, tab_ok, mixed, cuts_of (by kernel_rfl), Tab.ok (.cons (impl_IsProblem_1_1.ok) (by kernel_rfl) .nil), by kernel_rfl⟩
theorem slices_IndexFunc_at_IsProblem_1_1.ff (k : Nat) : ∀ n : Nat, (fun x0 x7 x8 => FF (slices_IndexFunc_at_IsProblem_1_1.E k) n slices_IndexFunc_at_IsProblem_1_1.S2 (slices_IndexFunc_at_IsProblem_1_1.m2 x0 x7 x8)) = slices_IndexFunc_at_IsProblem_1_1.bs k n
  | 0 => rfl
  | n + 1 => by
    show (fun x0 x7 x8 => FF (slices_IndexFunc_at_IsProblem_1_1.E k) (n + 1) slices_IndexFunc_at_IsProblem_1_1.S2 (slices_IndexFunc_at_IsProblem_1_1.m2 x0 x7 x8)) = (slices_IndexFunc_at_IsProblem_1_1.B2 k ((slices_IndexFunc_at_IsProblem_1_1.bs k n)))
    rw [← slices_IndexFunc_at_IsProblem_1_1.ff k n]
    exact (funext fun x0 => funext fun x7 => funext fun x8 => (FF_succ ..).trans (slices_IndexFunc_at_IsProblem_1_1.h2 k (fun t s => FF (slices_IndexFunc_at_IsProblem_1_1.E k) n t s) x0 x7 x8))
theorem slices_IndexFunc_at_IsProblem_1_1.run (k : Nat) (a0 : List Int): FF (slices_IndexFunc_at_IsProblem_1_1.E k) (k + 1) [.code (bodyOf Try.f100)] (stA (slices_IndexFunc_at_IsProblem_1_1.E k) [.v (.list (.int .i64)) a0]) = slices_IndexFunc_at_IsProblem_1_1.f k a0 :=
  (FF_succ ..).trans ((slices_IndexFunc_at_IsProblem_1_1.h k (fun t s => FF (slices_IndexFunc_at_IsProblem_1_1.E k) k t s) a0).trans (by
    show _ = slices_IndexFunc_at_IsProblem_1_1.B k ((slices_IndexFunc_at_IsProblem_1_1.bs k k)) a0
    rw [← slices_IndexFunc_at_IsProblem_1_1.ff k k]))
theorem slices_IndexFunc_at_IsProblem_1_1.ok (k : Nat) : FnOK Try.prog slices_IndexFunc_at_IsProblem_1_1.ent slices_IndexFunc_at_IsProblem_1_1.ts slices_IndexFunc_at_IsProblem_1_1.rs fun a => slices_IndexFunc_at_IsProblem_1_1.f k a :=
  ⟨hasBody_of Try.func100 (by kernel_rfl), by kernel_rfl, by kernel_rfl, fun a r hr => good_of (E := (slices_IndexFunc_at_IsProblem_1_1.E k)) (k := (k + 1)) (xs := encL slices_IndexFunc_at_IsProblem_1_1.ts a) (slices_IndexFunc_at_IsProblem_1_1.eok k) (body := (bodyOf Try.f100)) (by kernel_rfl) (by kernel_rfl) ((slices_IndexFunc_at_IsProblem_1_1.run k a).trans hr)⟩

def slices_ContainsFunc_at_IsProblem_1_1.B (k : Nat) (a0 : List Int) : Option (Bool) :=
  (slices_IndexFunc_at_IsProblem_1_1.f k a0).bind fun t1 => some (decide ((0 : Int) ≤ t1))
def slices_ContainsFunc_at_IsProblem_1_1.f (k : Nat) (a0 : List Int) : Option (Bool) := slices_ContainsFunc_at_IsProblem_1_1.B k a0
def slices_ContainsFunc_at_IsProblem_1_1.ent : Ent := ⟨71, [.h (.list (.int .i64)), .fn 89 [] []], [], .h (.bool), [], 26⟩
abbrev slices_ContainsFunc_at_IsProblem_1_1.ts : List Ty := [.list (.int .i64)]
abbrev slices_ContainsFunc_at_IsProblem_1_1.rs : List Ty := [.bool]
noncomputable def slices_ContainsFunc_at_IsProblem_1_1.E (k : Nat) : Env :=
  ⟨tab, 9, slices_ContainsFunc_at_IsProblem_1_1.ent, slices_ContainsFunc_at_IsProblem_1_1.rs, [slices_IndexFunc_at_IsProblem_1_1.ent], ctOf [(25, mkF slices_IndexFunc_at_IsProblem_1_1.ts slices_IndexFunc_at_IsProblem_1_1.rs fun a => slices_IndexFunc_at_IsProblem_1_1.f k a)], [], [.tmp 4]⟩
theorem slices_ContainsFunc_at_IsProblem_1_1.h (k : Nat) (R : List Item → St → Option (PD slices_ContainsFunc_at_IsProblem_1_1.rs)) (a0 : List Int) : run (slices_ContainsFunc_at_IsProblem_1_1.E k) R 4000 true [.code (bodyOf Try.f71)] (stA (slices_ContainsFunc_at_IsProblem_1_1.E k) [.v (.list (.int .i64)) a0]) = slices_ContainsFunc_at_IsProblem_1_1.B k a0 := by kernel_rfl
theorem slices_ContainsFunc_at_IsProblem_1_1.eok (k : Nat) : EOk Try.prog (slices_ContainsFunc_at_IsProblem_1_1.E k) Try.f71 :=
  ⟨Try.func71, Try.ntmps71, by kernel_rfl, tab_ok, mixed, cuts_of (by kernel_rfl), Tab.ok (.cons (slices_IndexFunc_at_IsProblem_1_1.ok k) (by kernel_rfl) .nil), by kernel_rfl⟩
theorem slices_ContainsFunc_at_IsProblem_1_1.run (k : Nat) (a0 : List Int): FF (slices_ContainsFunc_at_IsProblem_1_1.E k) 1 [.code (bodyOf Try.f71)] (stA (slices_ContainsFunc_at_IsProblem_1_1.E k) [.v (.list (.int .i64)) a0]) = slices_ContainsFunc_at_IsProblem_1_1.f k a0 :=
  (FF_succ ..).trans (slices_ContainsFunc_at_IsProblem_1_1.h k (fun t s => FF (slices_ContainsFunc_at_IsProblem_1_1.E k) 0 t s) a0)
theorem slices_ContainsFunc_at_IsProblem_1_1.ok (k : Nat) : FnOK Try.prog slices_ContainsFunc_at_IsProblem_1_1.ent slices_ContainsFunc_at_IsProblem_1_1.ts slices_ContainsFunc_at_IsProblem_1_1.rs fun a => slices_ContainsFunc_at_IsProblem_1_1.f k a :=
  ⟨hasBody_of Try.func71 (by kernel_rfl), by kernel_rfl, by kernel_rfl, fun a r hr => good_of (E := (slices_ContainsFunc_at_IsProblem_1_1.E k)) (k := 1) (xs := encL slices_ContainsFunc_at_IsProblem_1_1.ts a) (slices_ContainsFunc_at_IsProblem_1_1.eok k) (body := (bodyOf Try.f71)) (by kernel_rfl) (by kernel_rfl) ((slices_ContainsFunc_at_IsProblem_1_1.run k a).trans hr)⟩

def slices_Max.B5 (k : Nat) (r5 : List Int → Int → Int → Option (Int)) (x0 : List Int) (x3 : Int) (x4 : Int) : Option (Int) :=
  bif decide (x4 < (x0.length : Int)) then (if (0 : Int) ≤ x4 ∧ x4 < (x0.length : Int) then (r5 x0 (max x3 (x0.getD x4.toNat 0)) (w64 (x4 + 1))) else none) else some x3
def slices_Max.B (k : Nat) (r5 : List Int → Int → Int → Option (Int)) (a0 : List Int) : Option (Int) :=
  bif decide ((a0.length : Int) < (1 : Int)) then none else (if (0 : Int) ≤ 0 ∧ (0 : Int) < (a0.length : Int) then (r5 a0 (a0.getD 0 0) 1) else none)
def slices_Max.bs (k : Nat) : Nat → (List Int → Int → Int → Option (Int))
  | 0 => (fun _ _ _ => none)
  | n + 1 => (slices_Max.B5 k ((slices_Max.bs k n)))
def slices_Max.f (k : Nat) (a0 : List Int) : Option (Int) := slices_Max.B k ((slices_Max.bs k k)) a0
def slices_Max.ent : Ent := ⟨90, [.h (.list (.int .i64))], [], .h (.int .i64), [], 27⟩
abbrev slices_Max.ts : List Ty := [.list (.int .i64)]
abbrev slices_Max.rs : List Ty := [.int .i64]
def slices_Max.c5 : Cut := ⟨5, [(0, .h (.list (.int .i64))), (3, .h (.int .i64)), (4, .h (.int .i64))], []⟩
noncomputable def slices_Max.E (k : Nat) : Env :=
  ⟨tab, 25, slices_Max.ent, slices_Max.rs, [], ctOf [], [slices_Max.c5], [.tmp 2]⟩
noncomputable def slices_Max.S5 : List Item := stk (bodyOf Try.f90) 5
noncomputable def slices_Max.m5 (x0 : List Int) (x3 : Int) (x4 : Int) : St := mkS slices_Max.c5 [.v (.list (.int .i64)) x0, .v (.int .i64) x3, .v (.int .i64) x4]
theorem slices_Max.h5 (k : Nat) (R : List Item → St → Option (PD slices_Max.rs)) (x0 : List Int) (x3 : Int) (x4 : Int) : run (slices_Max.E k) R 4000 true slices_Max.S5 (slices_Max.m5 x0 x3 x4) = slices_Max.B5 k (fun x0 x3 x4 => R slices_Max.S5 (slices_Max.m5 x0 x3 x4)) x0 x3 x4 := by kernel_rfl
theorem slices_Max.h (k : Nat) (R : List Item → St → Option (PD slices_Max.rs)) (a0 : List Int) : run (slices_Max.E k) R 4000 true [.code (bodyOf Try.f90)] (stA (slices_Max.E k) [.v (.list (.int .i64)) a0]) = slices_Max.B k (fun x0 x3 x4 => R slices_Max.S5 (slices_Max.m5 x0 x3 x4)) a0 := by kernel_rfl
theorem slices_Max.eok (k : Nat) : EOk Try.prog (slices_Max.E k) Try.f90 :=
  ⟨Try.func90, Try.ntmps90, by kernel_rfl, tab_ok, mixed, cuts_of (by kernel_rfl), Tab.ok .nil, by kernel_rfl⟩
theorem slices_Max.ff (k : Nat) : ∀ n : Nat, (fun x0 x3 x4 => FF (slices_Max.E k) n slices_Max.S5 (slices_Max.m5 x0 x3 x4)) = slices_Max.bs k n
  | 0 => rfl
  | n + 1 => by
    show (fun x0 x3 x4 => FF (slices_Max.E k) (n + 1) slices_Max.S5 (slices_Max.m5 x0 x3 x4)) = (slices_Max.B5 k ((slices_Max.bs k n)))
    rw [← slices_Max.ff k n]
    exact (funext fun x0 => funext fun x3 => funext fun x4 => (FF_succ ..).trans (slices_Max.h5 k (fun t s => FF (slices_Max.E k) n t s) x0 x3 x4))
theorem slices_Max.run (k : Nat) (a0 : List Int): FF (slices_Max.E k) (k + 1) [.code (bodyOf Try.f90)] (stA (slices_Max.E k) [.v (.list (.int .i64)) a0]) = slices_Max.f k a0 :=
  (FF_succ ..).trans ((slices_Max.h k (fun t s => FF (slices_Max.E k) k t s) a0).trans (by
    show _ = slices_Max.B k ((slices_Max.bs k k)) a0
    rw [← slices_Max.ff k k]))
theorem slices_Max.ok (k : Nat) : FnOK Try.prog slices_Max.ent slices_Max.ts slices_Max.rs fun a => slices_Max.f k a :=
  ⟨hasBody_of Try.func90 (by kernel_rfl), by kernel_rfl, by kernel_rfl, fun a r hr => good_of (E := (slices_Max.E k)) (k := (k + 1)) (xs := encL slices_Max.ts a) (slices_Max.eok k) (body := (bodyOf Try.f90)) (by kernel_rfl) (by kernel_rfl) ((slices_Max.run k a).trans hr)⟩

def impl_IsProblem_1.B (k : Nat) (a0 : List Int) (a1 : Int) : Option (Bool) :=
  bif !decide ((a0.length : Int) = a1) then some true else ((slices_ContainsFunc_at_IsProblem_1_1.f k a0).bind fun t1 => (bif t1 then some true else ((slices_Max.f k a0).bind fun t2 => some (decide (t2 < (0 : Int))))))
def impl_IsProblem_1.f (k : Nat) (a0 : List Int) (a1 : Int) : Option (Bool) := impl_IsProblem_1.B k a0 a1
def impl_IsProblem_1.ent : Ent := ⟨88, [.h (.list (.int .i64)), .rp [.h (.int .i64)]], [], .h (.bool), [], 28⟩
abbrev impl_IsProblem_1.ts : List Ty := [.list (.int .i64), .int .i64]
abbrev impl_IsProblem_1.rs : List Ty := [.bool]
noncomputable def impl_IsProblem_1.E (k : Nat) : Env :=
  ⟨tab, 17, impl_IsProblem_1.ent, impl_IsProblem_1.rs, [slices_ContainsFunc_at_IsProblem_1_1.ent, slices_Max.ent], ctOf [(26, mkF slices_ContainsFunc_at_IsProblem_1_1.ts slices_ContainsFunc_at_IsProblem_1_1.rs fun a => slices_ContainsFunc_at_IsProblem_1_1.f k a),
    (27, mkF slices_Max.ts slices_Max.rs fun a => slices_Max.f k a)], [], [.tmp 3]⟩
theorem impl_IsProblem_1.h (k : Nat) (R : List Item → St → Option (PD impl_IsProblem_1.rs)) (a0 : List Int) (a1 : Int) : run (impl_IsProblem_1.E k) R 4000 true [.code (bodyOf Try.f88)] (stA (impl_IsProblem_1.E k) [.v (.list (.int .i64)) a0, .v (.int .i64) a1]) = impl_IsProblem_1.B k a0 a1 := by kernel_rfl
theorem impl_IsProblem_1.eok (k : Nat) : EOk Try.prog (impl_IsProblem_1.E k) Try.f88 :=
  ⟨Try.func88, Try.ntmps88, by kernel_rfl, tab_ok, mixed, cuts_of (by kernel_rfl), Tab.ok (.cons (slices_ContainsFunc_at_IsProblem_1_1.ok k) (by kernel_rfl) (.cons (slices_Max.ok k) (by kernel_rfl) .nil)), by kernel_rfl⟩
theorem impl_IsProblem_1.run (k : Nat) (a0 : List Int) (a1 : Int): FF (impl_IsProblem_1.E k) 1 [.code (bodyOf Try.f88)] (stA (impl_IsProblem_1.E k) [.v (.list (.int .i64)) a0, .v (.int .i64) a1]) = impl_IsProblem_1.f k a0 a1 :=
  (FF_succ ..).trans (impl_IsProblem_1.h k (fun t s => FF (impl_IsProblem_1.E k) 0 t s) a0 a1)
theorem impl_IsProblem_1.ok (k : Nat) : FnOK Try.prog impl_IsProblem_1.ent impl_IsProblem_1.ts impl_IsProblem_1.rs fun a => impl_IsProblem_1.f k a.1 a.2 :=
  ⟨hasBody_of Try.func88 (by kernel_rfl), by kernel_rfl, by kernel_rfl, fun a r hr => good_of (E := (impl_IsProblem_1.E k)) (k := 1) (xs := encL impl_IsProblem_1.ts a) (impl_IsProblem_1.eok k) (body := (bodyOf Try.f88)) (by kernel_rfl) (by kernel_rfl) ((impl_IsProblem_1.run k a.1 a.2).trans hr)⟩

def slices_IndexFunc_at_IsProblem_1.B2 (k : Nat) (r2 : List (List Int) → Int → Int → Int → Option (Int)) (x0 : List (List Int)) (x1_0_0 : Int) (x7 : Int) (x8 : Int) : Option (Int) :=
  bif decide (x8 < x7) then (if (0 : Int) ≤ x8 ∧ x8 < (x0.length : Int) then ((impl_IsProblem_1.f k (x0.getD x8.toNat []) x1_0_0).bind fun t1 => (bif t1 then some x8 else (r2 x0 x1_0_0 x7 (w64 (x8 + 1))))) else none) else some (-1)
def slices_IndexFunc_at_IsProblem_1.B (k : Nat) (r2 : List (List Int) → Int → Int → Int → Option (Int)) (a0 : List (List Int)) (a1 : Int) : Option (Int) :=
  r2 a0 a1 (a0.length : Int) 0
def slices_IndexFunc_at_IsProblem_1.bs (k : Nat) : Nat → (List (List Int) → Int → Int → Int → Option (Int))
  | 0 => (fun _ _ _ _ => none)
  | n + 1 => (slices_IndexFunc_at_IsProblem_1.B2 k ((slices_IndexFunc_at_IsProblem_1.bs k n)))
def slices_IndexFunc_at_IsProblem_1.f (k : Nat) (a0 : List (List Int)) (a1 : Int) : Option (Int) := slices_IndexFunc_at_IsProblem_1.B k ((slices_IndexFunc_at_IsProblem_1.bs k k)) a0 a1
def slices_IndexFunc_at_IsProblem_1.ent : Ent := ⟨104, [.h (.list (.list (.int .i64))), .fn 88 [] [.rp [.h (.int .i64)]]], [], .h (.int .i64), [], 29⟩
abbrev slices_IndexFunc_at_IsProblem_1.ts : List Ty := [.list (.list (.int .i64)), .int .i64]
abbrev slices_IndexFunc_at_IsProblem_1.rs : List Ty := [.int .i64]
def slices_IndexFunc_at_IsProblem_1.c2 : Cut := ⟨2, [(0, .h (.list (.list (.int .i64)))), (1, .fn 88 [] [.rp [.h (.int .i64)]]), (7, .h (.int .i64)), (8, .h (.int .i64))], []⟩
noncomputable def slices_IndexFunc_at_IsProblem_1.E (k : Nat) : Env :=
  ⟨tab, 19, slices_IndexFunc_at_IsProblem_1.ent, slices_IndexFunc_at_IsProblem_1.rs, [impl_IsProblem_1.ent], ctOf [(28, mkF impl_IsProblem_1.ts impl_IsProblem_1.rs fun a => impl_IsProblem_1.f k a.1 a.2)], [slices_IndexFunc_at_IsProblem_1.c2], [.tmp 4]⟩
noncomputable def slices_IndexFunc_at_IsProblem_1.S2 : List Item := stk (bodyOf Try.f104) 2
noncomputable def slices_IndexFunc_at_IsProblem_1.m2 (x0 : List (List Int)) (x1_0_0 : Int) (x7 : Int) (x8 : Int) : St := mkS slices_IndexFunc_at_IsProblem_1.c2 [.v (.list (.list (.int .i64))) x0, .v (.int .i64) x1_0_0, .v (.int .i64) x7, .v (.int .i64) x8]
theorem slices_IndexFunc_at_IsProblem_1.h2 (k : Nat) (R : List Item → St → Option (PD slices_IndexFunc_at_IsProblem_1.rs)) (x0 : List (List Int)) (x1_0_0 : Int) (x7 : Int) (x8 : Int) : run (slices_IndexFunc_at_IsProblem_1.E k) R 4000 true slices_IndexFunc_at_IsProblem_1.S2 (slices_IndexFunc_at_IsProblem_1.m2 x0 x1_0_0 x7 x8) = slices_IndexFunc_at_IsProblem_1.B2 k (fun x0 x1_0_0 x7 x8 => R slices_IndexFunc_at_IsProblem_1.S2 (slices_IndexFunc_at_IsProblem_1.m2 x0 x1_0_0 x7 x8)) x0 x1_0_0 x7 x8 := by kernel_rfl
theorem slices_IndexFunc_at_IsProblem_1.h (k : Nat) (R : List Item → St → Option (PD slices_IndexFunc_at_IsProblem_1.rs)) (a0 : List (List Int)) (a1 : Int) : run (slices_IndexFunc_at_IsProblem_1.E k) R 4000 true [.code (bodyOf Try.f104)] (stA (slices_IndexFunc_at_IsProblem_1.E k) [.v (.list (.list (.int .i64))) a0, .v (.int .i64) a1]) = slices_IndexFunc_at_IsProblem_1.B k (fun x0 x1_0_0 x7 x8 => R slices_IndexFunc_at_IsProblem_1.S2 (slices_IndexFunc_at_IsProblem_1.m2 x0 x1_0_0 x7 x8)) a0 a1 := by kernel_rfl
theorem slices_IndexFunc_at_IsProblem_1.eok (k : Nat) : EOk Try.prog (slices_IndexFunc_at_IsProblem_1.E k) Try.f104 :=
  ⟨Try.func104, Try.ntmps104, by kernel_rfl, tab_ok, mixed, cuts_of (by kernel_rfl), Tab.ok (.cons (impl_IsProblem_1.ok k) (by kernel_rfl) .nil), by kernel_rfl⟩
theorem slices_IndexFunc_at_IsProblem_1.ff (k : Nat) : ∀ n : Nat, (fun x0 x1_0_0 x7 x8 => FF (slices_IndexFunc_at_IsProblem_1.E k) n slices_IndexFunc_at_IsProblem_1.S2 (slices_IndexFunc_at_IsProblem_1.m2 x0 x1_0_0 x7 x8)) = slices_IndexFunc_at_IsProblem_1.bs k n
  | 0 => rfl
  | n + 1 => by
    show (fun x0 x1_0_0 x7 x8 => FF (slices_IndexFunc_at_IsProblem_1.E k) (n + 1) slices_IndexFunc_at_IsProblem_1.S2 (slices_IndexFunc_at_IsProblem_1.m2 x0 x1_0_0 x7 x8)) = (slices_IndexFunc_at_IsProblem_1.B2 k ((slices_IndexFunc_at_IsProblem_1.bs k n)))
    rw [← slices_IndexFunc_at_IsProblem_1.ff k n]
    exact (funext fun x0 => funext fun x1_0_0 => funext fun x7 => funext fun x8 => (FF_succ ..).trans (slices_IndexFunc_at_IsProblem_1.h2 k (fun t s => FF (slices_IndexFunc_at_IsProblem_1.E k) n t s) x0 x1_0_0 x7 x8))
theorem slices_IndexFunc_at_IsProblem_1.run (k : Nat) (a0 : List (List Int)) (a1 : Int): FF (slices_IndexFunc_at_IsProblem_1.E k) (k + 1) [.code (bodyOf Try.f104)] (stA (slices_IndexFunc_at_IsProblem_1.E k) [.v (.list (.list (.int .i64))) a0, .v (.int .i64) a1]) = slices_IndexFunc_at_IsProblem_1.f k a0 a1 :=
  (FF_succ ..).trans ((slices_IndexFunc_at_IsProblem_1.h k (fun t s => FF (slices_IndexFunc_at_IsProblem_1.E k) k t s) a0 a1).trans (by
    show _ = slices_IndexFunc_at_IsProblem_1.B k ((slices_IndexFunc_at_IsProblem_1.bs k k)) a0 a1
    rw [← slices_IndexFunc_at_IsProblem_1.ff k k]))
theorem slices_IndexFunc_at_IsProblem_1.ok (k : Nat) : FnOK Try.prog slices_IndexFunc_at_IsProblem_1.ent slices_IndexFunc_at_IsProblem_1.ts slices_IndexFunc_at_IsProblem_1.rs fun a => slices_IndexFunc_at_IsProblem_1.f k a.1 a.2 :=
  ⟨hasBody_of Try.func104 (by kernel_rfl), by kernel_rfl, by kernel_rfl, fun a r hr => good_of (E := (slices_IndexFunc_at_IsProblem_1.E k)) (k := (k + 1)) (xs := encL slices_IndexFunc_at_IsProblem_1.ts a) (slices_IndexFunc_at_IsProblem_1.eok k) (body := (bodyOf Try.f104)) (by kernel_rfl) (by kernel_rfl) ((slices_IndexFunc_at_IsProblem_1.run k a.1 a.2).trans hr)⟩

def slices_ContainsFunc_at_IsProblem_1.B (k : Nat) (a0 : List (List Int)) (a1 : Int) : Option (Bool) :=
  (slices_IndexFunc_at_IsProblem_1.f k a0 a1).bind fun t1 => some (decide ((0 : Int) ≤ t1))
def slices_ContainsFunc_at_IsProblem_1.f (k : Nat) (a0 : List (List Int)) (a1 : Int) : Option (Bool) := slices_ContainsFunc_at_IsProblem_1.B k a0 a1
def slices_ContainsFunc_at_IsProblem_1.ent : Ent := ⟨87, [.h (.list (.list (.int .i64))), .fn 88 [] [.rp [.h (.int .i64)]]], [], .h (.bool), [], 30⟩
abbrev slices_ContainsFunc_at_IsProblem_1.ts : List Ty := [.list (.list (.int .i64)), .int .i64]
abbrev slices_ContainsFunc_at_IsProblem_1.rs : List Ty := [.bool]
noncomputable def slices_ContainsFunc_at_IsProblem_1.E (k : Nat) : Env :=
  ⟨tab, 9, slices_ContainsFunc_at_IsProblem_1.ent, slices_ContainsFunc_at_IsProblem_1.rs, [slices_IndexFunc_at_IsProblem_1.ent], ctOf [(29, mkF slices_IndexFunc_at_IsProblem_1.ts slices_IndexFunc_at_IsProblem_1.rs fun a => slices_IndexFunc_at_IsProblem_1.f k a.1 a.2)], [], [.tmp 4]⟩
theorem slices_ContainsFunc_at_IsProblem_1.h (k : Nat) (R : List Item → St → Option (PD slices_ContainsFunc_at_IsProblem_1.rs)) (a0 : List (List Int)) (a1 : Int) : run (slices_ContainsFunc_at_IsProblem_1.E k) R 4000 true [.code (bodyOf Try.f87)] (stA (slices_ContainsFunc_at_IsProblem_1.E k) [.v (.list (.list (.int .i64))) a0, .v (.int .i64) a1]) = slices_ContainsFunc_at_IsProblem_1.B k a0 a1 := by kernel_rfl
theorem slices_ContainsFunc_at_IsProblem_1.eok (k : Nat) : EOk Try.prog (slices_ContainsFunc_at_IsProblem_1.E k) Try.f87 :=
  ⟨Try.func87, Try.ntmps87, by kernel_rfl, tab_ok, mixed, cuts_of (by kernel_rfl), Tab.ok (.cons (slices_IndexFunc_at_IsProblem_1.ok k) (by kernel_rfl) .nil), by kernel_rfl⟩
theorem slices_ContainsFunc_at_IsProblem_1.run (k : Nat) (a0 : List (List Int)) (a1 : Int): FF (slices_ContainsFunc_at_IsProblem_1.E k) 1 [.code (bodyOf Try.f87)] (stA (slices_ContainsFunc_at_IsProblem_1.E k) [.v (.list (.list (.int .i64))) a0, .v (.int .i64) a1]) = slices_ContainsFunc_at_IsProblem_1.f k a0 a1 :=
  (FF_succ ..).trans (slices_ContainsFunc_at_IsProblem_1.h k (fun t s => FF (slices_ContainsFunc_at_IsProblem_1.E k) 0 t s) a0 a1)
theorem slices_ContainsFunc_at_IsProblem_1.ok (k : Nat) : FnOK Try.prog slices_ContainsFunc_at_IsProblem_1.ent slices_ContainsFunc_at_IsProblem_1.ts slices_ContainsFunc_at_IsProblem_1.rs fun a => slices_ContainsFunc_at_IsProblem_1.f k a.1 a.2 :=
  ⟨hasBody_of Try.func87 (by kernel_rfl), by kernel_rfl, by kernel_rfl, fun a r hr => good_of (E := (slices_ContainsFunc_at_IsProblem_1.E k)) (k := 1) (xs := encL slices_ContainsFunc_at_IsProblem_1.ts a) (slices_ContainsFunc_at_IsProblem_1.eok k) (body := (bodyOf Try.f87)) (by kernel_rfl) (by kernel_rfl) ((slices_ContainsFunc_at_IsProblem_1.run k a.1 a.2).trans hr)⟩

def impl_IsProblem.B (k : Nat) (a0 : List (List Int)) (a1 : List (List Int)) : Option (Bool) :=
  (impl_within.f (a0.length : Int) 1 4).bind fun t1 => (bif !t1 then some false else ((impl_Problem_metric.f a0 a1).bind fun t2 => ((impl_IsMetric.f k t2).bind fun t3 => (bif !t3 then some false else ((impl_within.f (a1.length : Int) 1 4).bind fun t4 => (bif !t4 then some false else ((slices_ContainsFunc_at_IsProblem_1.f k a1 (a0.length : Int)).bind fun t5 => some (!t5))))))))
def impl_IsProblem.f (k : Nat) (a0 : List (List Int)) (a1 : List (List Int)) : Option (Bool) := impl_IsProblem.B k a0 a1
def impl_IsProblem.ent : Ent := ⟨54, [.agg [.h (.list (.list (.int .i64))), .h (.list (.list (.int .i64)))]], [], .h (.bool), [], 31⟩
abbrev impl_IsProblem.ts : List Ty := [.list (.list (.int .i64)), .list (.list (.int .i64))]
abbrev impl_IsProblem.rs : List Ty := [.bool]
noncomputable def impl_IsProblem.E (k : Nat) : Env :=
  ⟨tab, 28, impl_IsProblem.ent, impl_IsProblem.rs, [impl_within.ent, impl_Problem_metric.ent, impl_IsMetric.ent, slices_ContainsFunc_at_IsProblem_1.ent], ctOf [(16, mkF impl_within.ts impl_within.rs fun a => impl_within.f a.1 a.2.1 a.2.2),
    (17, mkF impl_Problem_metric.ts impl_Problem_metric.rs fun a => impl_Problem_metric.f a.1 a.2),
    (23, mkF impl_IsMetric.ts impl_IsMetric.rs fun a => impl_IsMetric.f k a),
    (30, mkF slices_ContainsFunc_at_IsProblem_1.ts slices_ContainsFunc_at_IsProblem_1.rs fun a => slices_ContainsFunc_at_IsProblem_1.f k a.1 a.2)], [], [.tmp 2]⟩
theorem impl_IsProblem.h (k : Nat) (R : List Item → St → Option (PD impl_IsProblem.rs)) (a0 : List (List Int)) (a1 : List (List Int)) : run (impl_IsProblem.E k) R 4000 true [.code (bodyOf Try.f54)] (stA (impl_IsProblem.E k) [.v (.list (.list (.int .i64))) a0, .v (.list (.list (.int .i64))) a1]) = impl_IsProblem.B k a0 a1 := by kernel_rfl
theorem impl_IsProblem.eok (k : Nat) : EOk Try.prog (impl_IsProblem.E k) Try.f54 :=
  ⟨Try.func54, Try.ntmps54, by kernel_rfl, tab_ok, mixed, cuts_of (by kernel_rfl), Tab.ok (.cons (impl_within.ok) (by kernel_rfl) (.cons (impl_Problem_metric.ok) (by kernel_rfl) (.cons (impl_IsMetric.ok k) (by kernel_rfl) (.cons (slices_ContainsFunc_at_IsProblem_1.ok k) (by kernel_rfl) .nil)))), by kernel_rfl⟩
theorem impl_IsProblem.run (k : Nat) (a0 : List (List Int)) (a1 : List (List Int)): FF (impl_IsProblem.E k) 1 [.code (bodyOf Try.f54)] (stA (impl_IsProblem.E k) [.v (.list (.list (.int .i64))) a0, .v (.list (.list (.int .i64))) a1]) = impl_IsProblem.f k a0 a1 :=
  (FF_succ ..).trans (impl_IsProblem.h k (fun t s => FF (impl_IsProblem.E k) 0 t s) a0 a1)
theorem impl_IsProblem.ok (k : Nat) : FnOK Try.prog impl_IsProblem.ent impl_IsProblem.ts impl_IsProblem.rs fun a => impl_IsProblem.f k a.1 a.2 :=
  ⟨hasBody_of Try.func54 (by kernel_rfl), by kernel_rfl, by kernel_rfl, fun a r hr => good_of (E := (impl_IsProblem.E k)) (k := 1) (xs := encL impl_IsProblem.ts a) (impl_IsProblem.eok k) (body := (bodyOf Try.f54)) (by kernel_rfl) (by kernel_rfl) ((impl_IsProblem.run k a.1 a.2).trans hr)⟩

def impl_Problem_isState.B (a0 : List (List Int)) (a1 : List (List Int)) (a2 : Int) : Option (Bool) :=
  (impl_within.f a2 0 (w64 ((a0.length : Int) - 1))).bind fun t1 => some t1
def impl_Problem_isState.f (a0 : List (List Int)) (a1 : List (List Int)) (a2 : Int) : Option (Bool) := impl_Problem_isState.B a0 a1 a2
def impl_Problem_isState.ent : Ent := ⟨69, [.agg [.h (.list (.list (.int .i64))), .h (.list (.list (.int .i64)))], .h (.int .i64)], [], .h (.bool), [], 32⟩
abbrev impl_Problem_isState.ts : List Ty := [.list (.list (.int .i64)), .list (.list (.int .i64)), .int .i64]
abbrev impl_Problem_isState.rs : List Ty := [.bool]
noncomputable def impl_Problem_isState.E : Env :=
  ⟨tab, 11, impl_Problem_isState.ent, impl_Problem_isState.rs, [impl_within.ent], ctOf [(16, mkF impl_within.ts impl_within.rs fun a => impl_within.f a.1 a.2.1 a.2.2)], [], [.tmp 4]⟩
theorem impl_Problem_isState.h (R : List Item → St → Option (PD impl_Problem_isState.rs)) (a0 : List (List Int)) (a1 : List (List Int)) (a2 : Int) : run (impl_Problem_isState.E) R 4000 true [.code (bodyOf Try.f69)] (stA (impl_Problem_isState.E) [.v (.list (.list (.int .i64))) a0, .v (.list (.list (.int .i64))) a1, .v (.int .i64) a2]) = impl_Problem_isState.B a0 a1 a2 := by kernel_rfl
theorem impl_Problem_isState.eok : EOk Try.prog (impl_Problem_isState.E) Try.f69 :=
  ⟨Try.func69, Try.ntmps69, by kernel_rfl, tab_ok, mixed, cuts_of (by kernel_rfl), Tab.ok (.cons (impl_within.ok) (by kernel_rfl) .nil), by kernel_rfl⟩
theorem impl_Problem_isState.run (a0 : List (List Int)) (a1 : List (List Int)) (a2 : Int): FF (impl_Problem_isState.E) 1 [.code (bodyOf Try.f69)] (stA (impl_Problem_isState.E) [.v (.list (.list (.int .i64))) a0, .v (.list (.list (.int .i64))) a1, .v (.int .i64) a2]) = impl_Problem_isState.f a0 a1 a2 :=
  (FF_succ ..).trans (impl_Problem_isState.h (fun t s => FF (impl_Problem_isState.E) 0 t s) a0 a1 a2)
theorem impl_Problem_isState.ok : FnOK Try.prog impl_Problem_isState.ent impl_Problem_isState.ts impl_Problem_isState.rs fun a => impl_Problem_isState.f a.1 a.2.1 a.2.2 :=
  ⟨hasBody_of Try.func69 (by kernel_rfl), by kernel_rfl, by kernel_rfl, fun a r hr => good_of (E := (impl_Problem_isState.E)) (k := 1) (xs := encL impl_Problem_isState.ts a) (impl_Problem_isState.eok) (body := (bodyOf Try.f69)) (by kernel_rfl) (by kernel_rfl) ((impl_Problem_isState.run a.1 a.2.1 a.2.2).trans hr)⟩

def impl_areBelow_1.B (a0 : Int) (a1 : Int) : Option (Bool) :=
  (impl_within.f a0 0 (w64 (a1 - 1))).bind fun t1 => some (!t1)
def impl_areBelow_1.f (a0 : Int) (a1 : Int) : Option (Bool) := impl_areBelow_1.B a0 a1
def impl_areBelow_1.ent : Ent := ⟨111, [.h (.int .i64), .rp [.h (.int .i64)]], [], .h (.bool), [], 33⟩
abbrev impl_areBelow_1.ts : List Ty := [.int .i64, .int .i64]
abbrev impl_areBelow_1.rs : List Ty := [.bool]
noncomputable def impl_areBelow_1.E : Env :=
  ⟨tab, 9, impl_areBelow_1.ent, impl_areBelow_1.rs, [impl_within.ent], ctOf [(16, mkF impl_within.ts impl_within.rs fun a => impl_within.f a.1 a.2.1 a.2.2)], [], [.tmp 3]⟩
theorem impl_areBelow_1.h (R : List Item → St → Option (PD impl_areBelow_1.rs)) (a0 : Int) (a1 : Int) : run (impl_areBelow_1.E) R 4000 true [.code (bodyOf Try.f111)] (stA (impl_areBelow_1.E) [.v (.int .i64) a0, .v (.int .i64) a1]) = impl_areBelow_1.B a0 a1 := by kernel_rfl
theorem impl_areBelow_1.eok : EOk Try.prog (impl_areBelow_1.E) Try.f111 :=
  ⟨Try.func111, Try.ntmps111, by kernel_rfl, tab_ok, mixed, cuts_of (by kernel_rfl), Tab.ok (.cons (impl_within.ok) (by kernel_rfl) .nil), by kernel_rfl⟩
theorem impl_areBelow_1.run (a0 : Int) (a1 : Int): FF (impl_areBelow_1.E) 1 [.code (bodyOf Try.f111)] (stA (impl_areBelow_1.E) [.v (.int .i64) a0, .v (.int .i64) a1]) = impl_areBelow_1.f a0 a1 :=
  (FF_succ ..).trans (impl_areBelow_1.h (fun t s => FF (impl_areBelow_1.E) 0 t s) a0 a1)
theorem impl_areBelow_1.ok : FnOK Try.prog impl_areBelow_1.ent impl_areBelow_1.ts impl_areBelow_1.rs fun a => impl_areBelow_1.f a.1 a.2 :=
  ⟨hasBody_of Try.func111 (by kernel_rfl), by kernel_rfl, by kernel_rfl, fun a r hr => good_of (E := (impl_areBelow_1.E)) (k := 1) (xs := encL impl_areBelow_1.ts a) (impl_areBelow_1.eok) (body := (bodyOf Try.f111)) (by kernel_rfl) (by kernel_rfl) ((impl_areBelow_1.run a.1 a.2).trans hr)⟩

def slices_IndexFunc_at_areBelow_1.B2 (k : Nat) (r2 : List Int → Int → Int → Int → Option (Int)) (x0 : List Int) (x1_0_0 : Int) (x7 : Int) (x8 : Int) : Option (Int) :=
  bif decide (x8 < x7) then (if (0 : Int) ≤ x8 ∧ x8 < (x0.length : Int) then ((impl_areBelow_1.f (x0.getD x8.toNat 0) x1_0_0).bind fun t1 => (bif t1 then some x8 else (r2 x0 x1_0_0 x7 (w64 (x8 + 1))))) else none) else some (-1)
def slices_IndexFunc_at_areBelow_1.B (k : Nat) (r2 : List Int → Int → Int → Int → Option (Int)) (a0 : List Int) (a1 : Int) : Option (Int) :=
  r2 a0 a1 (a0.length : Int) 0
def slices_IndexFunc_at_areBelow_1.bs (k : Nat) : Nat → (List Int → Int → Int → Int → Option (Int))
  | 0 => (fun _ _ _ _ => none)
  | n + 1 => (slices_IndexFunc_at_areBelow_1.B2 k ((slices_IndexFunc_at_areBelow_1.bs k n)))
def slices_IndexFunc_at_areBelow_1.f (k : Nat) (a0 : List Int) (a1 : Int) : Option (Int) := slices_IndexFunc_at_areBelow_1.B k ((slices_IndexFunc_at_areBelow_1.bs k k)) a0 a1
def slices_IndexFunc_at_areBelow_1.ent : Ent := ⟨100, [.h (.list (.int .i64)), .fn 111 [] [.rp [.h (.int .i64)]]], [], .h (.int .i64), [], 34⟩
abbrev slices_IndexFunc_at_areBelow_1.ts : List Ty := [.list (.int .i64), .int .i64]
abbrev slices_IndexFunc_at_areBelow_1.rs : List Ty := [.int .i64]
def slices_IndexFunc_at_areBelow_1.c2 : Cut := ⟨2, [(0, .h (.list (.int .i64))), (1, .fn 111 [] [.rp [.h (.int .i64)]]), (7, .h (.int .i64)), (8, .h (.int .i64))], []⟩
noncomputable def slices_IndexFunc_at_areBelow_1.E (k : Nat) : Env :=
  ⟨tab, 19, slices_IndexFunc_at_areBelow_1.ent, slices_IndexFunc_at_areBelow_1.rs, [impl_areBelow_1.ent], ctOf [(33, mkF impl_areBelow_1.ts impl_areBelow_1.rs fun a => impl_areBelow_1.f a.1 a.2)], [slices_IndexFunc_at_areBelow_1.c2], [.tmp 4]⟩
noncomputable def slices_IndexFunc_at_areBelow_1.S2 : List Item := stk (bodyOf Try.f100) 2
noncomputable def slices_IndexFunc_at_areBelow_1.m2 (x0 : List Int) (x1_0_0 : Int) (x7 : Int) (x8 : Int) : St := mkS slices_IndexFunc_at_areBelow_1.c2 [.v (.list (.int .i64)) x0, .v (.int .i64) x1_0_0, .v (.int .i64) x7, .v (.int .i64) x8]
theorem slices_IndexFunc_at_areBelow_1.h2 (k : Nat) (R : List Item → St → Option (PD slices_IndexFunc_at_areBelow_1.rs)) (x0 : List Int) (x1_0_0 : Int) (x7 : Int) (x8 : Int) : run (slices_IndexFunc_at_areBelow_1.E k) R 4000 true slices_IndexFunc_at_areBelow_1.S2 (slices_IndexFunc_at_areBelow_1.m2 x0 x1_0_0 x7 x8) = slices_IndexFunc_at_areBelow_1.B2 k (fun x0 x1_0_0 x7 x8 => R slices_IndexFunc_at_areBelow_1.S2 (slices_IndexFunc_at_areBelow_1.m2 x0 x1_0_0 x7 x8)) x0 x1_0_0 x7 x8 := by kernel_rfl
theorem slices_IndexFunc_at_areBelow_1.h (k : Nat) (R : List Item → St → Option (PD slices_IndexFunc_at_areBelow_1.rs)) (a0 : List Int) (a1 : Int) : run (slices_IndexFunc_at_areBelow_1.E k) R 4000 true [.code (bodyOf Try.f100)] (stA (slices_IndexFunc_at_areBelow_1.E k) [.v (.list (.int .i64)) a0, .v (.int .i64) a1]) = slices_IndexFunc_at_areBelow_1.B k (fun x0 x1_0_0 x7 x8 => R slices_IndexFunc_at_areBelow_1.S2 (slices_IndexFunc_at_areBelow_1.m2 x0 x1_0_0 x7 x8)) a0 a1 := by kernel_rfl
theorem slices_IndexFunc_at_areBelow_1.eok (k : Nat) : EOk Try.prog (slices_IndexFunc_at_areBelow_1.E k) Try.f100 :=
  ⟨Try.func100, Try.ntmps100, by kernel_rfl, tab_ok, mixed, cuts_of (by kernel_rfl), Tab.ok (.cons (impl_areBelow_1.ok) (by kernel_rfl) .nil), by kernel_rfl⟩
theorem slices_IndexFunc_at_areBelow_1.ff (k : Nat) : ∀ n : Nat, (fun x0 x1_0_0 x7 x8 => FF (slices_IndexFunc_at_areBelow_1.E k) n slices_IndexFunc_at_areBelow_1.S2 (slices_IndexFunc_at_areBelow_1.m2 x0 x1_0_0 x7 x8)) = slices_IndexFunc_at_areBelow_1.bs k n
  | 0 => rfl
  | n + 1 => by
    show (fun x0 x1_0_0 x7 x8 => FF (slices_IndexFunc_at_areBelow_1.E k) (n + 1) slices_IndexFunc_at_areBelow_1.S2 (slices_IndexFunc_at_areBelow_1.m2 x0 x1_0_0 x7 x8)) = (slices_IndexFunc_at_areBelow_1.B2 k ((slices_IndexFunc_at_areBelow_1.bs k n)))
    rw [← slices_IndexFunc_at_areBelow_1.ff k n]
    exact (funext fun x0 => funext fun x1_0_0 => funext fun x7 => funext fun x8 => (FF_succ ..).trans (slices_IndexFunc_at_areBelow_1.h2 k (fun t s => FF (slices_IndexFunc_at_areBelow_1.E k) n t s) x0 x1_0_0 x7 x8))
theorem slices_IndexFunc_at_areBelow_1.run (k : Nat) (a0 : List Int) (a1 : Int): FF (slices_IndexFunc_at_areBelow_1.E k) (k + 1) [.code (bodyOf Try.f100)] (stA (slices_IndexFunc_at_areBelow_1.E k) [.v (.list (.int .i64)) a0, .v (.int .i64) a1]) = slices_IndexFunc_at_areBelow_1.f k a0 a1 :=
  (FF_succ ..).trans ((slices_IndexFunc_at_areBelow_1.h k (fun t s => FF (slices_IndexFunc_at_areBelow_1.E k) k t s) a0 a1).trans (by
    show _ = slices_IndexFunc_at_areBelow_1.B k ((slices_IndexFunc_at_areBelow_1.bs k k)) a0 a1
    rw [← slices_IndexFunc_at_areBelow_1.ff k k]))
theorem slices_IndexFunc_at_areBelow_1.ok (k : Nat) : FnOK Try.prog slices_IndexFunc_at_areBelow_1.ent slices_IndexFunc_at_areBelow_1.ts slices_IndexFunc_at_areBelow_1.rs fun a => slices_IndexFunc_at_areBelow_1.f k a.1 a.2 :=
  ⟨hasBody_of Try.func100 (by kernel_rfl), by kernel_rfl, by kernel_rfl, fun a r hr => good_of (E := (slices_IndexFunc_at_areBelow_1.E k)) (k := (k + 1)) (xs := encL slices_IndexFunc_at_areBelow_1.ts a) (slices_IndexFunc_at_areBelow_1.eok k) (body := (bodyOf Try.f100)) (by kernel_rfl) (by kernel_rfl) ((slices_IndexFunc_at_areBelow_1.run k a.1 a.2).trans hr)⟩

def slices_ContainsFunc_at_areBelow_1.B (k : Nat) (a0 : List Int) (a1 : Int) : Option (Bool) :=
  (slices_IndexFunc_at_areBelow_1.f k a0 a1).bind fun t1 => some (decide ((0 : Int) ≤ t1))
def slices_ContainsFunc_at_areBelow_1.f (k : Nat) (a0 : List Int) (a1 : Int) : Option (Bool) := slices_ContainsFunc_at_areBelow_1.B k a0 a1
def slices_ContainsFunc_at_areBelow_1.ent : Ent := ⟨71, [.h (.list (.int .i64)), .fn 111 [] [.rp [.h (.int .i64)]]], [], .h (.bool), [], 35⟩
abbrev slices_ContainsFunc_at_areBelow_1.ts : List Ty := [.list (.int .i64), .int .i64]
abbrev slices_ContainsFunc_at_areBelow_1.rs : List Ty := [.bool]
noncomputable def slices_ContainsFunc_at_areBelow_1.E (k : Nat) : Env :=
  ⟨tab, 9, slices_ContainsFunc_at_areBelow_1.ent, slices_ContainsFunc_at_areBelow_1.rs, [slices_IndexFunc_at_areBelow_1.ent], ctOf [(34, mkF slices_IndexFunc_at_areBelow_1.ts slices_IndexFunc_at_areBelow_1.rs fun a => slices_IndexFunc_at_areBelow_1.f k a.1 a.2)], [], [.tmp 4]⟩
theorem slices_ContainsFunc_at_areBelow_1.h (k : Nat) (R : List Item → St → Option (PD slices_ContainsFunc_at_areBelow_1.rs)) (a0 : List Int) (a1 : Int) : run (slices_ContainsFunc_at_areBelow_1.E k) R 4000 true [.code (bodyOf Try.f71)] (stA (slices_ContainsFunc_at_areBelow_1.E k) [.v (.list (.int .i64)) a0, .v (.int .i64) a1]) = slices_ContainsFunc_at_areBelow_1.B k a0 a1 := by kernel_rfl
theorem slices_ContainsFunc_at_areBelow_1.eok (k : Nat) : EOk Try.prog (slices_ContainsFunc_at_areBelow_1.E k) Try.f71 :=
  ⟨Try.func71, Try.ntmps71, by kernel_rfl, tab_ok, mixed, cuts_of (by kernel_rfl), Tab.ok (.cons (slices_IndexFunc_at_areBelow_1.ok k) (by kernel_rfl) .nil), by kernel_rfl⟩
theorem slices_ContainsFunc_at_areBelow_1.run (k : Nat) (a0 : List Int) (a1 : Int): FF (slices_ContainsFunc_at_areBelow_1.E k) 1 [.code (bodyOf Try.f71)] (stA (slices_ContainsFunc_at_areBelow_1.E k) [.v (.list (.int .i64)) a0, .v (.int .i64) a1]) = slices_ContainsFunc_at_areBelow_1.f k a0 a1 :=
  (FF_succ ..).trans (slices_ContainsFunc_at_areBelow_1.h k (fun t s => FF (slices_ContainsFunc_at_areBelow_1.E k) 0 t s) a0 a1)
theorem slices_ContainsFunc_at_areBelow_1.ok (k : Nat) : FnOK Try.prog slices_ContainsFunc_at_areBelow_1.ent slices_ContainsFunc_at_areBelow_1.ts slices_ContainsFunc_at_areBelow_1.rs fun a => slices_ContainsFunc_at_areBelow_1.f k a.1 a.2 :=
  ⟨hasBody_of Try.func71 (by kernel_rfl), by kernel_rfl, by kernel_rfl, fun a r hr => good_of (E := (slices_ContainsFunc_at_areBelow_1.E k)) (k := 1) (xs := encL slices_ContainsFunc_at_areBelow_1.ts a) (slices_ContainsFunc_at_areBelow_1.eok k) (body := (bodyOf Try.f71)) (by kernel_rfl) (by kernel_rfl) ((slices_ContainsFunc_at_areBelow_1.run k a.1 a.2).trans hr)⟩

def impl_areBelow.B (k : Nat) (a0 : Int) (a1 : List Int) : Option (Bool) :=
  (slices_ContainsFunc_at_areBelow_1.f k a1 a0).bind fun t1 => some (!t1)
def impl_areBelow.f (k : Nat) (a0 : Int) (a1 : List Int) : Option (Bool) := impl_areBelow.B k a0 a1
def impl_areBelow.ent : Ent := ⟨99, [.h (.int .i64), .h (.list (.int .i64))], [], .h (.bool), [], 36⟩
abbrev impl_areBelow.ts : List Ty := [.int .i64, .list (.int .i64)]
abbrev impl_areBelow.rs : List Ty := [.bool]
noncomputable def impl_areBelow.E (k : Nat) : Env :=
  ⟨tab, 9, impl_areBelow.ent, impl_areBelow.rs, [slices_ContainsFunc_at_areBelow_1.ent], ctOf [(35, mkF slices_ContainsFunc_at_areBelow_1.ts slices_ContainsFunc_at_areBelow_1.rs fun a => slices_ContainsFunc_at_areBelow_1.f k a.1 a.2)], [], [.tmp 4]⟩
theorem impl_areBelow.h (k : Nat) (R : List Item → St → Option (PD impl_areBelow.rs)) (a0 : Int) (a1 : List Int) : run (impl_areBelow.E k) R 4000 true [.code (bodyOf Try.f99)] (stA (impl_areBelow.E k) [.v (.int .i64) a0, .v (.list (.int .i64)) a1]) = impl_areBelow.B k a0 a1 := by kernel_rfl
theorem impl_areBelow.eok (k : Nat) : EOk Try.prog (impl_areBelow.E k) Try.f99 :=
  ⟨Try.func99, Try.ntmps99, by kernel_rfl, tab_ok, mixed, cuts_of (by kernel_rfl), Tab.ok (.cons (slices_ContainsFunc_at_areBelow_1.ok k) (by kernel_rfl) .nil), by kernel_rfl⟩
theorem impl_areBelow.run (k : Nat) (a0 : Int) (a1 : List Int): FF (impl_areBelow.E k) 1 [.code (bodyOf Try.f99)] (stA (impl_areBelow.E k) [.v (.int .i64) a0, .v (.list (.int .i64)) a1]) = impl_areBelow.f k a0 a1 :=
  (FF_succ ..).trans (impl_areBelow.h k (fun t s => FF (impl_areBelow.E k) 0 t s) a0 a1)
theorem impl_areBelow.ok (k : Nat) : FnOK Try.prog impl_areBelow.ent impl_areBelow.ts impl_areBelow.rs fun a => impl_areBelow.f k a.1 a.2 :=
  ⟨hasBody_of Try.func99 (by kernel_rfl), by kernel_rfl, by kernel_rfl, fun a r hr => good_of (E := (impl_areBelow.E k)) (k := 1) (xs := encL impl_areBelow.ts a) (impl_areBelow.eok k) (body := (bodyOf Try.f99)) (by kernel_rfl) (by kernel_rfl) ((impl_areBelow.run k a.1 a.2).trans hr)⟩

def impl_Problem_isSequence.B (k : Nat) (a0 : List (List Int)) (a1 : List (List Int)) (a2 : List Int) : Option (Bool) :=
  bif decide ((a2.length : Int) ≤ (60 : Int)) then ((impl_areBelow.f k (a1.length : Int) a2).bind fun t1 => some t1) else some false
def impl_Problem_isSequence.f (k : Nat) (a0 : List (List Int)) (a1 : List (List Int)) (a2 : List Int) : Option (Bool) := impl_Problem_isSequence.B k a0 a1 a2
def impl_Problem_isSequence.ent : Ent := ⟨70, [.agg [.h (.list (.list (.int .i64))), .h (.list (.list (.int .i64)))], .h (.list (.int .i64))], [], .h (.bool), [], 37⟩
abbrev impl_Problem_isSequence.ts : List Ty := [.list (.list (.int .i64)), .list (.list (.int .i64)), .list (.int .i64)]
abbrev impl_Problem_isSequence.rs : List Ty := [.bool]
noncomputable def impl_Problem_isSequence.E (k : Nat) : Env :=
  ⟨tab, 15, impl_Problem_isSequence.ent, impl_Problem_isSequence.rs, [impl_areBelow.ent], ctOf [(36, mkF impl_areBelow.ts impl_areBelow.rs fun a => impl_areBelow.f k a.1 a.2)], [], [.tmp 4]⟩
theorem impl_Problem_isSequence.h (k : Nat) (R : List Item → St → Option (PD impl_Problem_isSequence.rs)) (a0 : List (List Int)) (a1 : List (List Int)) (a2 : List Int) : run (impl_Problem_isSequence.E k) R 4000 true [.code (bodyOf Try.f70)] (stA (impl_Problem_isSequence.E k) [.v (.list (.list (.int .i64))) a0, .v (.list (.list (.int .i64))) a1, .v (.list (.int .i64)) a2]) = impl_Problem_isSequence.B k a0 a1 a2 := by kernel_rfl
theorem impl_Problem_isSequence.eok (k : Nat) : EOk Try.prog (impl_Problem_isSequence.E k) Try.f70 :=
  ⟨Try.func70, Try.ntmps70, by kernel_rfl, tab_ok, mixed, cuts_of (by kernel_rfl), Tab.ok (.cons (impl_areBelow.ok k) (by kernel_rfl) .nil), by kernel_rfl⟩
theorem impl_Problem_isSequence.run (k : Nat) (a0 : List (List Int)) (a1 : List (List Int)) (a2 : List Int): FF (impl_Problem_isSequence.E k) 1 [.code (bodyOf Try.f70)] (stA (impl_Problem_isSequence.E k) [.v (.list (.list (.int .i64))) a0, .v (.list (.list (.int .i64))) a1, .v (.list (.int .i64)) a2]) = impl_Problem_isSequence.f k a0 a1 a2 :=
  (FF_succ ..).trans (impl_Problem_isSequence.h k (fun t s => FF (impl_Problem_isSequence.E k) 0 t s) a0 a1 a2)
theorem impl_Problem_isSequence.ok (k : Nat) : FnOK Try.prog impl_Problem_isSequence.ent impl_Problem_isSequence.ts impl_Problem_isSequence.rs fun a => impl_Problem_isSequence.f k a.1 a.2.1 a.2.2 :=
  ⟨hasBody_of Try.func70 (by kernel_rfl), by kernel_rfl, by kernel_rfl, fun a r hr => good_of (E := (impl_Problem_isSequence.E k)) (k := 1) (xs := encL impl_Problem_isSequence.ts a) (impl_Problem_isSequence.eok k) (body := (bodyOf Try.f70)) (by kernel_rfl) (by kernel_rfl) ((impl_Problem_isSequence.run k a.1 a.2.1 a.2.2).trans hr)⟩

def impl_isStarted.B (k : Nat) (a0 : List (List Int)) (a1 : List (List Int)) (a2 : Int) (a3 : List Int) : Option (Bool) :=
  (impl_IsProblem.f k a0 a1).bind fun t1 => (bif t1 then ((impl_Problem_isState.f a0 a1 a2).bind fun t2 => (bif t2 then ((impl_Problem_isSequence.f k a0 a1 a3).bind fun t3 => some t3) else some false)) else some false)
def impl_isStarted.f (k : Nat) (a0 : List (List Int)) (a1 : List (List Int)) (a2 : Int) (a3 : List Int) : Option (Bool) := impl_isStarted.B k a0 a1 a2 a3
def impl_isStarted.ent : Ent := ⟨30, [.agg [.h (.list (.list (.int .i64))), .h (.list (.list (.int .i64)))], .h (.int .i64), .h (.list (.int .i64))], [], .h (.bool), [], 38⟩
abbrev impl_isStarted.ts : List Ty := [.list (.list (.int .i64)), .list (.list (.int .i64)), .int .i64, .list (.int .i64)]
abbrev impl_isStarted.rs : List Ty := [.bool]
noncomputable def impl_isStarted.E (k : Nat) : Env :=
  ⟨tab, 19, impl_isStarted.ent, impl_isStarted.rs, [impl_IsProblem.ent, impl_Problem_isState.ent, impl_Problem_isSequence.ent], ctOf [(31, mkF impl_IsProblem.ts impl_IsProblem.rs fun a => impl_IsProblem.f k a.1 a.2),
    (32, mkF impl_Problem_isState.ts impl_Problem_isState.rs fun a => impl_Problem_isState.f a.1 a.2.1 a.2.2),
    (37, mkF impl_Problem_isSequence.ts impl_Problem_isSequence.rs fun a => impl_Problem_isSequence.f k a.1 a.2.1 a.2.2)], [], [.tmp 6]⟩
theorem impl_isStarted.h (k : Nat) (R : List Item → St → Option (PD impl_isStarted.rs)) (a0 : List (List Int)) (a1 : List (List Int)) (a2 : Int) (a3 : List Int) : run (impl_isStarted.E k) R 4000 true [.code (bodyOf Try.f30)] (stA (impl_isStarted.E k) [.v (.list (.list (.int .i64))) a0, .v (.list (.list (.int .i64))) a1, .v (.int .i64) a2, .v (.list (.int .i64)) a3]) = impl_isStarted.B k a0 a1 a2 a3 := by kernel_rfl
theorem impl_isStarted.eok (k : Nat) : EOk Try.prog (impl_isStarted.E k) Try.f30 :=
  ⟨Try.func30, Try.ntmps30, by kernel_rfl, tab_ok, mixed, cuts_of (by kernel_rfl), Tab.ok (.cons (impl_IsProblem.ok k) (by kernel_rfl) (.cons (impl_Problem_isState.ok) (by kernel_rfl) (.cons (impl_Problem_isSequence.ok k) (by kernel_rfl) .nil))), by kernel_rfl⟩
theorem impl_isStarted.run (k : Nat) (a0 : List (List Int)) (a1 : List (List Int)) (a2 : Int) (a3 : List Int): FF (impl_isStarted.E k) 1 [.code (bodyOf Try.f30)] (stA (impl_isStarted.E k) [.v (.list (.list (.int .i64))) a0, .v (.list (.list (.int .i64))) a1, .v (.int .i64) a2, .v (.list (.int .i64)) a3]) = impl_isStarted.f k a0 a1 a2 a3 :=
  (FF_succ ..).trans (impl_isStarted.h k (fun t s => FF (impl_isStarted.E k) 0 t s) a0 a1 a2 a3)
theorem impl_isStarted.ok (k : Nat) : FnOK Try.prog impl_isStarted.ent impl_isStarted.ts impl_isStarted.rs fun a => impl_isStarted.f k a.1 a.2.1 a.2.2.1 a.2.2.2 :=
  ⟨hasBody_of Try.func30 (by kernel_rfl), by kernel_rfl, by kernel_rfl, fun a r hr => good_of (E := (impl_isStarted.E k)) (k := 1) (xs := encL impl_isStarted.ts a) (impl_isStarted.eok k) (body := (bodyOf Try.f30)) (by kernel_rfl) (by kernel_rfl) ((impl_isStarted.run k a.1 a.2.1 a.2.2.1 a.2.2.2).trans hr)⟩

def impl_areWeights_1.B (a0 : Int) (a1 : Int) : Option (Bool) :=
  (impl_within.f a0 a1 9).bind fun t1 => some (!t1)
def impl_areWeights_1.f (a0 : Int) (a1 : Int) : Option (Bool) := impl_areWeights_1.B a0 a1
def impl_areWeights_1.ent : Ent := ⟨72, [.h (.int .i64), .rp [.h (.int .i64)]], [], .h (.bool), [], 39⟩
abbrev impl_areWeights_1.ts : List Ty := [.int .i64, .int .i64]
abbrev impl_areWeights_1.rs : List Ty := [.bool]
noncomputable def impl_areWeights_1.E : Env :=
  ⟨tab, 8, impl_areWeights_1.ent, impl_areWeights_1.rs, [impl_within.ent], ctOf [(16, mkF impl_within.ts impl_within.rs fun a => impl_within.f a.1 a.2.1 a.2.2)], [], [.tmp 3]⟩
theorem impl_areWeights_1.h (R : List Item → St → Option (PD impl_areWeights_1.rs)) (a0 : Int) (a1 : Int) : run (impl_areWeights_1.E) R 4000 true [.code (bodyOf Try.f72)] (stA (impl_areWeights_1.E) [.v (.int .i64) a0, .v (.int .i64) a1]) = impl_areWeights_1.B a0 a1 := by kernel_rfl
theorem impl_areWeights_1.eok : EOk Try.prog (impl_areWeights_1.E) Try.f72 :=
  ⟨Try.func72, Try.ntmps72, by kernel_rfl, tab_ok, mixed, cuts_of (by kernel_rfl), Tab.ok (.cons (impl_within.ok) (by kernel_rfl) .nil), by kernel_rfl⟩
theorem impl_areWeights_1.run (a0 : Int) (a1 : Int): FF (impl_areWeights_1.E) 1 [.code (bodyOf Try.f72)] (stA (impl_areWeights_1.E) [.v (.int .i64) a0, .v (.int .i64) a1]) = impl_areWeights_1.f a0 a1 :=
  (FF_succ ..).trans (impl_areWeights_1.h (fun t s => FF (impl_areWeights_1.E) 0 t s) a0 a1)
theorem impl_areWeights_1.ok : FnOK Try.prog impl_areWeights_1.ent impl_areWeights_1.ts impl_areWeights_1.rs fun a => impl_areWeights_1.f a.1 a.2 :=
  ⟨hasBody_of Try.func72 (by kernel_rfl), by kernel_rfl, by kernel_rfl, fun a r hr => good_of (E := (impl_areWeights_1.E)) (k := 1) (xs := encL impl_areWeights_1.ts a) (impl_areWeights_1.eok) (body := (bodyOf Try.f72)) (by kernel_rfl) (by kernel_rfl) ((impl_areWeights_1.run a.1 a.2).trans hr)⟩

def slices_IndexFunc_at_areWeights_1.B2 (k : Nat) (r2 : List Int → Int → Int → Int → Option (Int)) (x0 : List Int) (x1_0_0 : Int) (x7 : Int) (x8 : Int) : Option (Int) :=
  bif decide (x8 < x7) then (if (0 : Int) ≤ x8 ∧ x8 < (x0.length : Int) then ((impl_areWeights_1.f (x0.getD x8.toNat 0) x1_0_0).bind fun t1 => (bif t1 then some x8 else (r2 x0 x1_0_0 x7 (w64 (x8 + 1))))) else none) else some (-1)
def slices_IndexFunc_at_areWeights_1.B (k : Nat) (r2 : List Int → Int → Int → Int → Option (Int)) (a0 : List Int) (a1 : Int) : Option (Int) :=
  r2 a0 a1 (a0.length : Int) 0
def slices_IndexFunc_at_areWeights_1.bs (k : Nat) : Nat → (List Int → Int → Int → Int → Option (Int))
  | 0 => (fun _ _ _ _ => none)
  | n + 1 => (slices_IndexFunc_at_areWeights_1.B2 k ((slices_IndexFunc_at_areWeights_1.bs k n)))
def slices_IndexFunc_at_areWeights_1.f (k : Nat) (a0 : List Int) (a1 : Int) : Option (Int) := slices_IndexFunc_at_areWeights_1.B k ((slices_IndexFunc_at_areWeights_1.bs k k)) a0 a1
def slices_IndexFunc_at_areWeights_1.ent : Ent := ⟨100, [.h (.list (.int .i64)), .fn 72 [] [.rp [.h (.int .i64)]]], [], .h (.int .i64), [], 40⟩
abbrev slices_IndexFunc_at_areWeights_1.ts : List Ty := [.list (.int .i64), .int .i64]
abbrev slices_IndexFunc_at_areWeights_1.rs : List Ty := [.int .i64]
def slices_IndexFunc_at_areWeights_1.c2 : Cut := ⟨2, [(0, .h (.list (.int .i64))), (1, .fn 72 [] [.rp [.h (.int .i64)]]), (7, .h (.int .i64)), (8, .h (.int .i64))], []⟩
noncomputable def slices_IndexFunc_at_areWeights_1.E (k : Nat) : Env :=
  ⟨tab, 19, slices_IndexFunc_at_areWeights_1.ent, slices_IndexFunc_at_areWeights_1.rs, [impl_areWeights_1.ent], ctOf [(39, mkF impl_areWeights_1.ts impl_areWeights_1.rs fun a => impl_areWeights_1.f a.1 a.2)], [slices_IndexFunc_at_areWeights_1.c2], [.tmp 4]⟩
noncomputable def slices_IndexFunc_at_areWeights_1.S2 : List Item := stk (bodyOf Try.f100) 2
noncomputable def slices_IndexFunc_at_areWeights_1.m2 (x0 : List Int) (x1_0_0 : Int) (x7 : Int) (x8 : Int) : St := mkS slices_IndexFunc_at_areWeights_1.c2 [.v (.list (.int .i64)) x0, .v (.int .i64) x1_0_0, .v (.int .i64) x7, .v (.int .i64) x8]
theorem slices_IndexFunc_at_areWeights_1.h2 (k : Nat) (R : List Item → St → Option (PD slices_IndexFunc_at_areWeights_1.rs)) (x0 : List Int) (x1_0_0 : Int) (x7 : Int) (x8 : Int) : run (slices_IndexFunc_at_areWeights_1.E k) R 4000 true slices_IndexFunc_at_areWeights_1.S2 (slices_IndexFunc_at_areWeights_1.m2 x0 x1_0_0 x7 x8) = slices_IndexFunc_at_areWeights_1.B2 k (fun x0 x1_0_0 x7 x8 => R slices_IndexFunc_at_areWeights_1.S2 (slices_IndexFunc_at_areWeights_1.m2 x0 x1_0_0 x7 x8)) x0 x1_0_0 x7 x8 := by kernel_rfl
theorem slices_IndexFunc_at_areWeights_1.h (k : Nat) (R : List Item → St → Option (PD slices_IndexFunc_at_areWeights_1.rs)) (a0 : List Int) (a1 : Int) : run (slices_IndexFunc_at_areWeights_1.E k) R 4000 true [.code (bodyOf Try.f100)] (stA (slices_IndexFunc_at_areWeights_1.E k) [.v (.list (.int .i64)) a0, .v (.int .i64) a1]) = slices_IndexFunc_at_areWeights_1.B k (fun x0 x1_0_0 x7 x8 => R slices_IndexFunc_at_areWeights_1.S2 (slices_IndexFunc_at_areWeights_1.m2 x0 x1_0_0 x7 x8)) a0 a1 := by kernel_rfl
theorem slices_IndexFunc_at_areWeights_1.eok (k : Nat) : EOk Try.prog (slices_IndexFunc_at_areWeights_1.E k) Try.f100 :=
  ⟨Try.func100, Try.ntmps100, by kernel_rfl, tab_ok, mixed, cuts_of (by kernel_rfl), Tab.ok (.cons (impl_areWeights_1.ok) (by kernel_rfl) .nil), by kernel_rfl⟩
theorem slices_IndexFunc_at_areWeights_1.ff (k : Nat) : ∀ n : Nat, (fun x0 x1_0_0 x7 x8 => FF (slices_IndexFunc_at_areWeights_1.E k) n slices_IndexFunc_at_areWeights_1.S2 (slices_IndexFunc_at_areWeights_1.m2 x0 x1_0_0 x7 x8)) = slices_IndexFunc_at_areWeights_1.bs k n
  | 0 => rfl
  | n + 1 => by
    show (fun x0 x1_0_0 x7 x8 => FF (slices_IndexFunc_at_areWeights_1.E k) (n + 1) slices_IndexFunc_at_areWeights_1.S2 (slices_IndexFunc_at_areWeights_1.m2 x0 x1_0_0 x7 x8)) = (slices_IndexFunc_at_areWeights_1.B2 k ((slices_IndexFunc_at_areWeights_1.bs k n)))
    rw [← slices_IndexFunc_at_areWeights_1.ff k n]
    exact (funext fun x0 => funext fun x1_0_0 => funext fun x7 => funext fun x8 => (FF_succ ..).trans (slices_IndexFunc_at_areWeights_1.h2 k (fun t s => FF (slices_IndexFunc_at_areWeights_1.E k) n t s) x0 x1_0_0 x7 x8))
theorem slices_IndexFunc_at_areWeights_1.run (k : Nat) (a0 : List Int) (a1 : Int): FF (slices_IndexFunc_at_areWeights_1.E k) (k + 1) [.code (bodyOf Try.f100)] (stA (slices_IndexFunc_at_areWeights_1.E k) [.v (.list (.int .i64)) a0, .v (.int .i64) a1]) = slices_IndexFunc_at_areWeights_1.f k a0 a1 :=
  (FF_succ ..).trans ((slices_IndexFunc_at_areWeights_1.h k (fun t s => FF (slices_IndexFunc_at_areWeights_1.E k) k t s) a0 a1).trans (by
    show _ = slices_IndexFunc_at_areWeights_1.B k ((slices_IndexFunc_at_areWeights_1.bs k k)) a0 a1
    rw [← slices_IndexFunc_at_areWeights_1.ff k k]))
theorem slices_IndexFunc_at_areWeights_1.ok (k : Nat) : FnOK Try.prog slices_IndexFunc_at_areWeights_1.ent slices_IndexFunc_at_areWeights_1.ts slices_IndexFunc_at_areWeights_1.rs fun a => slices_IndexFunc_at_areWeights_1.f k a.1 a.2 :=
  ⟨hasBody_of Try.func100 (by kernel_rfl), by kernel_rfl, by kernel_rfl, fun a r hr => good_of (E := (slices_IndexFunc_at_areWeights_1.E k)) (k := (k + 1)) (xs := encL slices_IndexFunc_at_areWeights_1.ts a) (slices_IndexFunc_at_areWeights_1.eok k) (body := (bodyOf Try.f100)) (by kernel_rfl) (by kernel_rfl) ((slices_IndexFunc_at_areWeights_1.run k a.1 a.2).trans hr)⟩

def slices_ContainsFunc_at_areWeights_1.B (k : Nat) (a0 : List Int) (a1 : Int) : Option (Bool) :=
  (slices_IndexFunc_at_areWeights_1.f k a0 a1).bind fun t1 => some (decide ((0 : Int) ≤ t1))
def slices_ContainsFunc_at_areWeights_1.f (k : Nat) (a0 : List Int) (a1 : Int) : Option (Bool) := slices_ContainsFunc_at_areWeights_1.B k a0 a1
def slices_ContainsFunc_at_areWeights_1.ent : Ent := ⟨71, [.h (.list (.int .i64)), .fn 72 [] [.rp [.h (.int .i64)]]], [], .h (.bool), [], 41⟩
abbrev slices_ContainsFunc_at_areWeights_1.ts : List Ty := [.list (.int .i64), .int .i64]
abbrev slices_ContainsFunc_at_areWeights_1.rs : List Ty := [.bool]
noncomputable def slices_ContainsFunc_at_areWeights_1.E (k : Nat) : Env :=
  ⟨tab, 9, slices_ContainsFunc_at_areWeights_1.ent, slices_ContainsFunc_at_areWeights_1.rs, [slices_IndexFunc_at_areWeights_1.ent], ctOf [(40, mkF slices_IndexFunc_at_areWeights_1.ts slices_IndexFunc_at_areWeights_1.rs fun a => slices_IndexFunc_at_areWeights_1.f k a.1 a.2)], [], [.tmp 4]⟩
theorem slices_ContainsFunc_at_areWeights_1.h (k : Nat) (R : List Item → St → Option (PD slices_ContainsFunc_at_areWeights_1.rs)) (a0 : List Int) (a1 : Int) : run (slices_ContainsFunc_at_areWeights_1.E k) R 4000 true [.code (bodyOf Try.f71)] (stA (slices_ContainsFunc_at_areWeights_1.E k) [.v (.list (.int .i64)) a0, .v (.int .i64) a1]) = slices_ContainsFunc_at_areWeights_1.B k a0 a1 := by kernel_rfl
theorem slices_ContainsFunc_at_areWeights_1.eok (k : Nat) : EOk Try.prog (slices_ContainsFunc_at_areWeights_1.E k) Try.f71 :=
  ⟨Try.func71, Try.ntmps71, by kernel_rfl, tab_ok, mixed, cuts_of (by kernel_rfl), Tab.ok (.cons (slices_IndexFunc_at_areWeights_1.ok k) (by kernel_rfl) .nil), by kernel_rfl⟩
theorem slices_ContainsFunc_at_areWeights_1.run (k : Nat) (a0 : List Int) (a1 : Int): FF (slices_ContainsFunc_at_areWeights_1.E k) 1 [.code (bodyOf Try.f71)] (stA (slices_ContainsFunc_at_areWeights_1.E k) [.v (.list (.int .i64)) a0, .v (.int .i64) a1]) = slices_ContainsFunc_at_areWeights_1.f k a0 a1 :=
  (FF_succ ..).trans (slices_ContainsFunc_at_areWeights_1.h k (fun t s => FF (slices_ContainsFunc_at_areWeights_1.E k) 0 t s) a0 a1)
theorem slices_ContainsFunc_at_areWeights_1.ok (k : Nat) : FnOK Try.prog slices_ContainsFunc_at_areWeights_1.ent slices_ContainsFunc_at_areWeights_1.ts slices_ContainsFunc_at_areWeights_1.rs fun a => slices_ContainsFunc_at_areWeights_1.f k a.1 a.2 :=
  ⟨hasBody_of Try.func71 (by kernel_rfl), by kernel_rfl, by kernel_rfl, fun a r hr => good_of (E := (slices_ContainsFunc_at_areWeights_1.E k)) (k := 1) (xs := encL slices_ContainsFunc_at_areWeights_1.ts a) (slices_ContainsFunc_at_areWeights_1.eok k) (body := (bodyOf Try.f71)) (by kernel_rfl) (by kernel_rfl) ((slices_ContainsFunc_at_areWeights_1.run k a.1 a.2).trans hr)⟩

def impl_areWeights.B (k : Nat) (a0 : List Int) (a1 : Int) : Option (Bool) :=
  (slices_ContainsFunc_at_areWeights_1.f k a0 a1).bind fun t1 => some (!t1)
def impl_areWeights.f (k : Nat) (a0 : List Int) (a1 : Int) : Option (Bool) := impl_areWeights.B k a0 a1
def impl_areWeights.ent : Ent := ⟨32, [.h (.list (.int .i64)), .h (.int .i64)], [], .h (.bool), [], 42⟩
abbrev impl_areWeights.ts : List Ty := [.list (.int .i64), .int .i64]
abbrev impl_areWeights.rs : List Ty := [.bool]
noncomputable def impl_areWeights.E (k : Nat) : Env :=
  ⟨tab, 9, impl_areWeights.ent, impl_areWeights.rs, [slices_ContainsFunc_at_areWeights_1.ent], ctOf [(41, mkF slices_ContainsFunc_at_areWeights_1.ts slices_ContainsFunc_at_areWeights_1.rs fun a => slices_ContainsFunc_at_areWeights_1.f k a.1 a.2)], [], [.tmp 4]⟩
theorem impl_areWeights.h (k : Nat) (R : List Item → St → Option (PD impl_areWeights.rs)) (a0 : List Int) (a1 : Int) : run (impl_areWeights.E k) R 4000 true [.code (bodyOf Try.f32)] (stA (impl_areWeights.E k) [.v (.list (.int .i64)) a0, .v (.int .i64) a1]) = impl_areWeights.B k a0 a1 := by kernel_rfl
theorem impl_areWeights.eok (k : Nat) : EOk Try.prog (impl_areWeights.E k) Try.f32 :=
  ⟨Try.func32, Try.ntmps32, by kernel_rfl, tab_ok, mixed, cuts_of (by kernel_rfl), Tab.ok (.cons (slices_ContainsFunc_at_areWeights_1.ok k) (by kernel_rfl) .nil), by kernel_rfl⟩
theorem impl_areWeights.run (k : Nat) (a0 : List Int) (a1 : Int): FF (impl_areWeights.E k) 1 [.code (bodyOf Try.f32)] (stA (impl_areWeights.E k) [.v (.list (.int .i64)) a0, .v (.int .i64) a1]) = impl_areWeights.f k a0 a1 :=
  (FF_succ ..).trans (impl_areWeights.h k (fun t s => FF (impl_areWeights.E k) 0 t s) a0 a1)
theorem impl_areWeights.ok (k : Nat) : FnOK Try.prog impl_areWeights.ent impl_areWeights.ts impl_areWeights.rs fun a => impl_areWeights.f k a.1 a.2 :=
  ⟨hasBody_of Try.func32 (by kernel_rfl), by kernel_rfl, by kernel_rfl, fun a r hr => good_of (E := (impl_areWeights.E k)) (k := 1) (xs := encL impl_areWeights.ts a) (impl_areWeights.eok k) (body := (bodyOf Try.f32)) (by kernel_rfl) (by kernel_rfl) ((impl_areWeights.run k a.1 a.2).trans hr)⟩

def impl_total.B3 (k : Nat) (r3 : Int → List Int → Int → Int → Option (Int)) (x3 : Int) (x6 : List Int) (x7 : Int) (x8 : Int) : Option (Int) :=
  bif decide (x8 < x7) then (if (0 : Int) ≤ x8 ∧ x8 < (x6.length : Int) then (r3 (w64 (x3 + (x6.getD x8.toNat 0))) x6 x7 (w64 (x8 + 1))) else none) else some x3
def impl_total.B (k : Nat) (r3 : Int → List Int → Int → Int → Option (Int)) (a0 : List Int) : Option (Int) :=
  r3 0 a0 (a0.length : Int) 0
def impl_total.bs (k : Nat) : Nat → (Int → List Int → Int → Int → Option (Int))
  | 0 => (fun _ _ _ _ => none)
  | n + 1 => (impl_total.B3 k ((impl_total.bs k n)))
def impl_total.f (k : Nat) (a0 : List Int) : Option (Int) := impl_total.B k ((impl_total.bs k k)) a0
def impl_total.ent : Ent := ⟨33, [.h (.list (.int .i64))], [], .h (.int .i64), [], 43⟩
abbrev impl_total.ts : List Ty := [.list (.int .i64)]
abbrev impl_total.rs : List Ty := [.int .i64]
def impl_total.c3 : Cut := ⟨3, [(3, .h (.int .i64)), (6, .h (.list (.int .i64))), (7, .h (.int .i64)), (8, .h (.int .i64))], []⟩
noncomputable def impl_total.E (k : Nat) : Env :=
  ⟨tab, 17, impl_total.ent, impl_total.rs, [], ctOf [], [impl_total.c3], [.tmp 2]⟩
noncomputable def impl_total.S3 : List Item := stk (bodyOf Try.f33) 3
noncomputable def impl_total.m3 (x3 : Int) (x6 : List Int) (x7 : Int) (x8 : Int) : St := mkS impl_total.c3 [.v (.int .i64) x3, .v (.list (.int .i64)) x6, .v (.int .i64) x7, .v (.int .i64) x8]
theorem impl_total.h3 (k : Nat) (R : List Item → St → Option (PD impl_total.rs)) (x3 : Int) (x6 : List Int) (x7 : Int) (x8 : Int) : run (impl_total.E k) R 4000 true impl_total.S3 (impl_total.m3 x3 x6 x7 x8) = impl_total.B3 k (fun x3 x6 x7 x8 => R impl_total.S3 (impl_total.m3 x3 x6 x7 x8)) x3 x6 x7 x8 := by kernel_rfl
theorem impl_total.h (k : Nat) (R : List Item → St → Option (PD impl_total.rs)) (a0 : List Int) : run (impl_total.E k) R 4000 true [.code (bodyOf Try.f33)] (stA (impl_total.E k) [.v (.list (.int .i64)) a0]) = impl_total.B k (fun x3 x6 x7 x8 => R impl_total.S3 (impl_total.m3 x3 x6 x7 x8)) a0 := by kernel_rfl
theorem impl_total.eok (k : Nat) : EOk Try.prog (impl_total.E k) Try.f33 :=
  ⟨Try.func33, Try.ntmps33, by kernel_rfl, tab_ok, mixed, cuts_of (by kernel_rfl), Tab.ok .nil, by kernel_rfl⟩
theorem impl_total.ff (k : Nat) : ∀ n : Nat, (fun x3 x6 x7 x8 => FF (impl_total.E k) n impl_total.S3 (impl_total.m3 x3 x6 x7 x8)) = impl_total.bs k n
  | 0 => rfl
  | n + 1 => by
    show (fun x3 x6 x7 x8 => FF (impl_total.E k) (n + 1) impl_total.S3 (impl_total.m3 x3 x6 x7 x8)) = (impl_total.B3 k ((impl_total.bs k n)))
    rw [← impl_total.ff k n]
    exact (funext fun x3 => funext fun x6 => funext fun x7 => funext fun x8 => (FF_succ ..).trans (impl_total.h3 k (fun t s => FF (impl_total.E k) n t s) x3 x6 x7 x8))
theorem impl_total.run (k : Nat) (a0 : List Int): FF (impl_total.E k) (k + 1) [.code (bodyOf Try.f33)] (stA (impl_total.E k) [.v (.list (.int .i64)) a0]) = impl_total.f k a0 :=
  (FF_succ ..).trans ((impl_total.h k (fun t s => FF (impl_total.E k) k t s) a0).trans (by
    show _ = impl_total.B k ((impl_total.bs k k)) a0
    rw [← impl_total.ff k k]))
theorem impl_total.ok (k : Nat) : FnOK Try.prog impl_total.ent impl_total.ts impl_total.rs fun a => impl_total.f k a :=
  ⟨hasBody_of Try.func33 (by kernel_rfl), by kernel_rfl, by kernel_rfl, fun a r hr => good_of (E := (impl_total.E k)) (k := (k + 1)) (xs := encL impl_total.ts a) (impl_total.eok k) (body := (bodyOf Try.f33)) (by kernel_rfl) (by kernel_rfl) ((impl_total.run k a).trans hr)⟩

def impl_size.B (a0 : Int) : Option (Int) :=
  some (max a0 (w64 (0 - a0)))
def impl_size.f (a0 : Int) : Option (Int) := impl_size.B a0
def impl_size.ent : Ent := ⟨74, [.h (.int .i64)], [], .h (.int .i64), [], 44⟩
abbrev impl_size.ts : List Ty := [.int .i64]
abbrev impl_size.rs : List Ty := [.int .i64]
noncomputable def impl_size.E : Env :=
  ⟨tab, 7, impl_size.ent, impl_size.rs, [], ctOf [], [], [.tmp 2]⟩
theorem impl_size.h (R : List Item → St → Option (PD impl_size.rs)) (a0 : Int) : run (impl_size.E) R 4000 true [.code (bodyOf Try.f74)] (stA (impl_size.E) [.v (.int .i64) a0]) = impl_size.B a0 := by kernel_rfl
theorem impl_size.eok : EOk Try.prog (impl_size.E) Try.f74 :=
  ⟨Try.func74, Try.ntmps74, by kernel_rfl, tab_ok, mixed, cuts_of (by kernel_rfl), Tab.ok .nil, by kernel_rfl⟩
theorem impl_size.run (a0 : Int): FF (impl_size.E) 1 [.code (bodyOf Try.f74)] (stA (impl_size.E) [.v (.int .i64) a0]) = impl_size.f a0 :=
  (FF_succ ..).trans (impl_size.h (fun t s => FF (impl_size.E) 0 t s) a0)
theorem impl_size.ok : FnOK Try.prog impl_size.ent impl_size.ts impl_size.rs fun a => impl_size.f a :=
  ⟨hasBody_of Try.func74 (by kernel_rfl), by kernel_rfl, by kernel_rfl, fun a r hr => good_of (E := (impl_size.E)) (k := 1) (xs := encL impl_size.ts a) (impl_size.eok) (body := (bodyOf Try.f74)) (by kernel_rfl) (by kernel_rfl) ((impl_size.run a).trans hr)⟩

def impl_divisor.B1 (k : Nat) (r1 : Int → Int → Option (Int)) (x0 : Int) (x1 : Int) : Option (Int) :=
  bif decide ((0 : Int) < x1) then (if x1 ≠ 0 then (r1 x1 (Int.tmod x0 x1)) else none) else some x0
def impl_divisor.B (k : Nat) (r1 : Int → Int → Option (Int)) (a0 : Int) (a1 : Int) : Option (Int) :=
  r1 a0 a1
def impl_divisor.bs (k : Nat) : Nat → (Int → Int → Option (Int))
  | 0 => (fun _ _ => none)
  | n + 1 => (impl_divisor.B1 k ((impl_divisor.bs k n)))
def impl_divisor.f (k : Nat) (a0 : Int) (a1 : Int) : Option (Int) := impl_divisor.B k ((impl_divisor.bs k k)) a0 a1
def impl_divisor.ent : Ent := ⟨73, [.h (.int .i64), .h (.int .i64)], [], .h (.int .i64), [], 45⟩
abbrev impl_divisor.ts : List Ty := [.int .i64, .int .i64]
abbrev impl_divisor.rs : List Ty := [.int .i64]
def impl_divisor.c1 : Cut := ⟨1, [(0, .h (.int .i64)), (1, .h (.int .i64))], []⟩
noncomputable def impl_divisor.E (k : Nat) : Env :=
  ⟨tab, 12, impl_divisor.ent, impl_divisor.rs, [], ctOf [], [impl_divisor.c1], [.tmp 4]⟩
noncomputable def impl_divisor.S1 : List Item := stk (bodyOf Try.f73) 1
noncomputable def impl_divisor.m1 (x0 : Int) (x1 : Int) : St := mkS impl_divisor.c1 [.v (.int .i64) x0, .v (.int .i64) x1]
theorem impl_divisor.h1 (k : Nat) (R : List Item → St → Option (PD impl_divisor.rs)) (x0 : Int) (x1 : Int) : run (impl_divisor.E k) R 4000 true impl_divisor.S1 (impl_divisor.m1 x0 x1) = impl_divisor.B1 k (fun x0 x1 => R impl_divisor.S1 (impl_divisor.m1 x0 x1)) x0 x1 := by kernel_rfl
theorem impl_divisor.h (k : Nat) (R : List Item → St → Option (PD impl_divisor.rs)) (a0 : Int) (a1 : Int) : run (impl_divisor.E k) R 4000 true [.code (bodyOf Try.f73)] (stA (impl_divisor.E k) [.v (.int .i64) a0, .v (.int .i64) a1]) = impl_divisor.B k (fun x0 x1 => R impl_divisor.S1 (impl_divisor.m1 x0 x1)) a0 a1 := by kernel_rfl
theorem impl_divisor.eok (k : Nat) : EOk Try.prog (impl_divisor.E k) Try.f73 :=
  ⟨Try.func73, Try.ntmps73, by kernel_rfl, tab_ok, mixed, cuts_of (by kernel_rfl), Tab.ok .nil, by kernel_rfl⟩
theorem impl_divisor.ff (k : Nat) : ∀ n : Nat, (fun x0 x1 => FF (impl_divisor.E k) n impl_divisor.S1 (impl_divisor.m1 x0 x1)) = impl_divisor.bs k n
  | 0 => rfl
  | n + 1 => by
    show (fun x0 x1 => FF (impl_divisor.E k) (n + 1) impl_divisor.S1 (impl_divisor.m1 x0 x1)) = (impl_divisor.B1 k ((impl_divisor.bs k n)))
    rw [← impl_divisor.ff k n]
    exact (funext fun x0 => funext fun x1 => (FF_succ ..).trans (impl_divisor.h1 k (fun t s => FF (impl_divisor.E k) n t s) x0 x1))
theorem impl_divisor.run (k : Nat) (a0 : Int) (a1 : Int): FF (impl_divisor.E k) (k + 1) [.code (bodyOf Try.f73)] (stA (impl_divisor.E k) [.v (.int .i64) a0, .v (.int .i64) a1]) = impl_divisor.f k a0 a1 :=
  (FF_succ ..).trans ((impl_divisor.h k (fun t s => FF (impl_divisor.E k) k t s) a0 a1).trans (by
    show _ = impl_divisor.B k ((impl_divisor.bs k k)) a0 a1
    rw [← impl_divisor.ff k k]))
theorem impl_divisor.ok (k : Nat) : FnOK Try.prog impl_divisor.ent impl_divisor.ts impl_divisor.rs fun a => impl_divisor.f k a.1 a.2 :=
  ⟨hasBody_of Try.func73 (by kernel_rfl), by kernel_rfl, by kernel_rfl, fun a r hr => good_of (E := (impl_divisor.E k)) (k := (k + 1)) (xs := encL impl_divisor.ts a) (impl_divisor.eok k) (body := (bodyOf Try.f73)) (by kernel_rfl) (by kernel_rfl) ((impl_divisor.run k a.1 a.2).trans hr)⟩

def impl_IsFrac.B (k : Nat) (a0 : Int) (a1 : Int) : Option (Bool) :=
  (impl_within.f a1 1 100000).bind fun t1 => (bif t1 then ((impl_within.f a0 (-100000000) 100000000).bind fun t2 => (bif t2 then ((impl_size.f a0).bind fun t3 => ((impl_divisor.f k t3 a1).bind fun t4 => some (decide (t4 = (1 : Int))))) else some false)) else some false)
def impl_IsFrac.f (k : Nat) (a0 : Int) (a1 : Int) : Option (Bool) := impl_IsFrac.B k a0 a1
def impl_IsFrac.ent : Ent := ⟨75, [.agg [.h (.int .i64), .h (.int .i64)]], [], .h (.bool), [], 46⟩
abbrev impl_IsFrac.ts : List Ty := [.int .i64, .int .i64]
abbrev impl_IsFrac.rs : List Ty := [.bool]
noncomputable def impl_IsFrac.E (k : Nat) : Env :=
  ⟨tab, 20, impl_IsFrac.ent, impl_IsFrac.rs, [impl_within.ent, impl_size.ent, impl_divisor.ent], ctOf [(16, mkF impl_within.ts impl_within.rs fun a => impl_within.f a.1 a.2.1 a.2.2),
    (44, mkF impl_size.ts impl_size.rs fun a => impl_size.f a),
    (45, mkF impl_divisor.ts impl_divisor.rs fun a => impl_divisor.f k a.1 a.2)], [], [.tmp 2]⟩
theorem impl_IsFrac.h (k : Nat) (R : List Item → St → Option (PD impl_IsFrac.rs)) (a0 : Int) (a1 : Int) : run (impl_IsFrac.E k) R 4000 true [.code (bodyOf Try.f75)] (stA (impl_IsFrac.E k) [.v (.int .i64) a0, .v (.int .i64) a1]) = impl_IsFrac.B k a0 a1 := by kernel_rfl
theorem impl_IsFrac.eok (k : Nat) : EOk Try.prog (impl_IsFrac.E k) Try.f75 :=
  ⟨Try.func75, Try.ntmps75, by kernel_rfl, tab_ok, mixed, cuts_of (by kernel_rfl), Tab.ok (.cons (impl_within.ok) (by kernel_rfl) (.cons (impl_size.ok) (by kernel_rfl) (.cons (impl_divisor.ok k) (by kernel_rfl) .nil))), by kernel_rfl⟩
theorem impl_IsFrac.run (k : Nat) (a0 : Int) (a1 : Int): FF (impl_IsFrac.E k) 1 [.code (bodyOf Try.f75)] (stA (impl_IsFrac.E k) [.v (.int .i64) a0, .v (.int .i64) a1]) = impl_IsFrac.f k a0 a1 :=
  (FF_succ ..).trans (impl_IsFrac.h k (fun t s => FF (impl_IsFrac.E k) 0 t s) a0 a1)
theorem impl_IsFrac.ok (k : Nat) : FnOK Try.prog impl_IsFrac.ent impl_IsFrac.ts impl_IsFrac.rs fun a => impl_IsFrac.f k a.1 a.2 :=
  ⟨hasBody_of Try.func75 (by kernel_rfl), by kernel_rfl, by kernel_rfl, fun a r hr => good_of (E := (impl_IsFrac.E k)) (k := 1) (xs := encL impl_IsFrac.ts a) (impl_IsFrac.eok k) (body := (bodyOf Try.f75)) (by kernel_rfl) (by kernel_rfl) ((impl_IsFrac.run k a.1 a.2).trans hr)⟩

def impl_makeFrac.B (k : Nat) (a0 : Int) (a1 : Int) : Option (Int × Int × Bool) :=
  (impl_size.f a0).bind fun t1 => ((impl_divisor.f k t1 a1).bind fun t2 => (if t2 ≠ 0 then (if t2 ≠ 0 then ((impl_IsFrac.f k (w64 (Int.tdiv a0 t2)) (w64 (Int.tdiv a1 t2))).bind fun t3 => (bif !t3 then some (0, 0, false) else some (w64 (Int.tdiv a0 t2), w64 (Int.tdiv a1 t2), true))) else none) else none))
def impl_makeFrac.f (k : Nat) (a0 : Int) (a1 : Int) : Option (Int × Int × Bool) := impl_makeFrac.B k a0 a1
def impl_makeFrac.ent : Ent := ⟨36, [.h (.int .i64), .h (.int .i64)], [], .tup [.agg [.h (.int .i64), .h (.int .i64)], .h (.bool)], [], 47⟩
abbrev impl_makeFrac.ts : List Ty := [.int .i64, .int .i64]
abbrev impl_makeFrac.rs : List Ty := [.int .i64, .int .i64, .bool]
noncomputable def impl_makeFrac.E (k : Nat) : Env :=
  ⟨tab, 24, impl_makeFrac.ent, impl_makeFrac.rs, [impl_size.ent, impl_divisor.ent, impl_IsFrac.ent], ctOf [(44, mkF impl_size.ts impl_size.rs fun a => impl_size.f a),
    (45, mkF impl_divisor.ts impl_divisor.rs fun a => impl_divisor.f k a.1 a.2),
    (46, mkF impl_IsFrac.ts impl_IsFrac.rs fun a => impl_IsFrac.f k a.1 a.2)], [], [.cell 4 31, .tmp 5]⟩
theorem impl_makeFrac.h (k : Nat) (R : List Item → St → Option (PD impl_makeFrac.rs)) (a0 : Int) (a1 : Int) : run (impl_makeFrac.E k) R 4000 true [.code (bodyOf Try.f36)] (stA (impl_makeFrac.E k) [.v (.int .i64) a0, .v (.int .i64) a1]) = impl_makeFrac.B k a0 a1 := by kernel_rfl
theorem impl_makeFrac.eok (k : Nat) : EOk Try.prog (impl_makeFrac.E k) Try.f36 :=
  ⟨Try.func36, Try.ntmps36, by kernel_rfl, tab_ok, mixed, cuts_of (by kernel_rfl), Tab.ok (.cons (impl_size.ok) (by kernel_rfl) (.cons (impl_divisor.ok k) (by kernel_rfl) (.cons (impl_IsFrac.ok k) (by kernel_rfl) .nil))), by kernel_rfl⟩
theorem impl_makeFrac.run (k : Nat) (a0 : Int) (a1 : Int): FF (impl_makeFrac.E k) 1 [.code (bodyOf Try.f36)] (stA (impl_makeFrac.E k) [.v (.int .i64) a0, .v (.int .i64) a1]) = impl_makeFrac.f k a0 a1 :=
  (FF_succ ..).trans (impl_makeFrac.h k (fun t s => FF (impl_makeFrac.E k) 0 t s) a0 a1)
theorem impl_makeFrac.ok (k : Nat) : FnOK Try.prog impl_makeFrac.ent impl_makeFrac.ts impl_makeFrac.rs fun a => impl_makeFrac.f k a.1 a.2 :=
  ⟨hasBody_of Try.func36 (by kernel_rfl), by kernel_rfl, by kernel_rfl, fun a r hr => good_of (E := (impl_makeFrac.E k)) (k := 1) (xs := encL impl_makeFrac.ts a) (impl_makeFrac.eok k) (body := (bodyOf Try.f36)) (by kernel_rfl) (by kernel_rfl) ((impl_makeFrac.run k a.1 a.2).trans hr)⟩

def impl_Problem_served.B3 (k : Nat) (r3 : List Int → Int → Int → List Int → Option (List Int)) (x13 : List Int) (x14 : Int) (x15 : Int) (x5 : List Int) : Option (List Int) :=
  bif decide (x15 < x14) then (if (0 : Int) ≤ x15 ∧ x15 < (x13.length : Int) then (bif decide ((0 : Int) ≤ x13.getD x15.toNat 0) then (if x5.length + 1 ≤ capB then (r3 x13 x14 (w64 (x15 + 1)) (x5 ++ [x15])) else none) else (r3 x13 x14 (w64 (x15 + 1)) x5)) else none) else some x5
def impl_Problem_served.B (k : Nat) (r3 : List Int → Int → Int → List Int → Option (List Int)) (a0 : List (List Int)) (a1 : List (List Int)) (a2 : Int) : Option (List Int) :=
  if (0 : Int) ≤ a2 ∧ a2 < (a1.length : Int) then (r3 (a1.getD a2.toNat []) ((a1.getD a2.toNat []).length : Int) 0 []) else none
def impl_Problem_served.bs (k : Nat) : Nat → (List Int → Int → Int → List Int → Option (List Int))
  | 0 => (fun _ _ _ _ => none)
  | n + 1 => (impl_Problem_served.B3 k ((impl_Problem_served.bs k n)))
def impl_Problem_served.f (k : Nat) (a0 : List (List Int)) (a1 : List (List Int)) (a2 : Int) : Option (List Int) := impl_Problem_served.B k ((impl_Problem_served.bs k k)) a0 a1 a2
def impl_Problem_served.ent : Ent := ⟨34, [.agg [.h (.list (.list (.int .i64))), .h (.list (.list (.int .i64)))], .h (.int .i64)], [], .own 0 (.int .i64), [.buf (.int .i64)], 48⟩
abbrev impl_Problem_served.ts : List Ty := [.list (.list (.int .i64)), .list (.list (.int .i64)), .int .i64]
abbrev impl_Problem_served.rs : List Ty := [.list (.int .i64)]
def impl_Problem_served.c3 : Cut := ⟨3, [(5, .own 0 (.int .i64)), (13, .h (.list (.int .i64))), (14, .h (.int .i64)), (15, .h (.int .i64))], [.buf (.int .i64)]⟩
noncomputable def impl_Problem_served.E (k : Nat) : Env :=
  ⟨tab, 28, impl_Problem_served.ent, impl_Problem_served.rs, [], ctOf [], [impl_Problem_served.c3], [.tmp 4]⟩
noncomputable def impl_Problem_served.S3 : List Item := stk (bodyOf Try.f34) 3
noncomputable def impl_Problem_served.m3 (x13 : List Int) (x14 : Int) (x15 : Int) (x5 : List Int) : St := mkS impl_Problem_served.c3 [.v (.list (.int .i64)) x13, .v (.int .i64) x14, .v (.int .i64) x15, .v (.list (.int .i64)) x5]
theorem impl_Problem_served.h3 (k : Nat) (R : List Item → St → Option (PD impl_Problem_served.rs)) (x13 : List Int) (x14 : Int) (x15 : Int) (x5 : List Int) : run (impl_Problem_served.E k) R 4000 true impl_Problem_served.S3 (impl_Problem_served.m3 x13 x14 x15 x5) = impl_Problem_served.B3 k (fun x13 x14 x15 x5 => R impl_Problem_served.S3 (impl_Problem_served.m3 x13 x14 x15 x5)) x13 x14 x15 x5 := by kernel_rfl
theorem impl_Problem_served.h (k : Nat) (R : List Item → St → Option (PD impl_Problem_served.rs)) (a0 : List (List Int)) (a1 : List (List Int)) (a2 : Int) : run (impl_Problem_served.E k) R 4000 true [.code (bodyOf Try.f34)] (stA (impl_Problem_served.E k) [.v (.list (.list (.int .i64))) a0, .v (.list (.list (.int .i64))) a1, .v (.int .i64) a2]) = impl_Problem_served.B k (fun x13 x14 x15 x5 => R impl_Problem_served.S3 (impl_Problem_served.m3 x13 x14 x15 x5)) a0 a1 a2 := by kernel_rfl
theorem impl_Problem_served.eok (k : Nat) : EOk Try.prog (impl_Problem_served.E k) Try.f34 :=
  ⟨Try.func34, Try.ntmps34, by kernel_rfl, tab_ok, mixed, cuts_of (by kernel_rfl), Tab.ok .nil, by kernel_rfl⟩
theorem impl_Problem_served.ff (k : Nat) : ∀ n : Nat, (fun x13 x14 x15 x5 => FF (impl_Problem_served.E k) n impl_Problem_served.S3 (impl_Problem_served.m3 x13 x14 x15 x5)) = impl_Problem_served.bs k n
  | 0 => rfl
  | n + 1 => by
    show (fun x13 x14 x15 x5 => FF (impl_Problem_served.E k) (n + 1) impl_Problem_served.S3 (impl_Problem_served.m3 x13 x14 x15 x5)) = (impl_Problem_served.B3 k ((impl_Problem_served.bs k n)))
    rw [← impl_Problem_served.ff k n]
    exact (funext fun x13 => funext fun x14 => funext fun x15 => funext fun x5 => (FF_succ ..).trans (impl_Problem_served.h3 k (fun t s => FF (impl_Problem_served.E k) n t s) x13 x14 x15 x5))
theorem impl_Problem_served.run (k : Nat) (a0 : List (List Int)) (a1 : List (List Int)) (a2 : Int): FF (impl_Problem_served.E k) (k + 1) [.code (bodyOf Try.f34)] (stA (impl_Problem_served.E k) [.v (.list (.list (.int .i64))) a0, .v (.list (.list (.int .i64))) a1, .v (.int .i64) a2]) = impl_Problem_served.f k a0 a1 a2 :=
  (FF_succ ..).trans ((impl_Problem_served.h k (fun t s => FF (impl_Problem_served.E k) k t s) a0 a1 a2).trans (by
    show _ = impl_Problem_served.B k ((impl_Problem_served.bs k k)) a0 a1 a2
    rw [← impl_Problem_served.ff k k]))
theorem impl_Problem_served.ok (k : Nat) : FnOK Try.prog impl_Problem_served.ent impl_Problem_served.ts impl_Problem_served.rs fun a => impl_Problem_served.f k a.1 a.2.1 a.2.2 :=
  ⟨hasBody_of Try.func34 (by kernel_rfl), by kernel_rfl, by kernel_rfl, fun a r hr => good_of (E := (impl_Problem_served.E k)) (k := (k + 1)) (xs := encL impl_Problem_served.ts a) (impl_Problem_served.eok k) (body := (bodyOf Try.f34)) (by kernel_rfl) (by kernel_rfl) ((impl_Problem_served.run k a.1 a.2.1 a.2.2).trans hr)⟩

def impl_Problem_cost.B (a0 : List (List Int)) (a1 : List (List Int)) (a2 : Int) (a3 : Int) (a4 : Int) : Option (Int) :=
  if (0 : Int) ≤ a2 ∧ a2 < (a0.length : Int) then (if (0 : Int) ≤ a3 ∧ a3 < ((a0.getD a2.toNat []).length : Int) then (if (0 : Int) ≤ a4 ∧ a4 < (a1.length : Int) then (if (0 : Int) ≤ a3 ∧ a3 < ((a1.getD a4.toNat []).length : Int) then some (w64 (((a0.getD a2.toNat []).getD a3.toNat 0) + ((a1.getD a4.toNat []).getD a3.toNat 0))) else none) else none) else none) else none
def impl_Problem_cost.f (a0 : List (List Int)) (a1 : List (List Int)) (a2 : Int) (a3 : Int) (a4 : Int) : Option (Int) := impl_Problem_cost.B a0 a1 a2 a3 a4
def impl_Problem_cost.ent : Ent := ⟨35, [.agg [.h (.list (.list (.int .i64))), .h (.list (.list (.int .i64)))], .h (.int .i64), .h (.int .i64), .h (.int .i64)], [], .h (.int .i64), [], 49⟩
abbrev impl_Problem_cost.ts : List Ty := [.list (.list (.int .i64)), .list (.list (.int .i64)), .int .i64, .int .i64, .int .i64]
abbrev impl_Problem_cost.rs : List Ty := [.int .i64]
noncomputable def impl_Problem_cost.E : Env :=
  ⟨tab, 26, impl_Problem_cost.ent, impl_Problem_cost.rs, [], ctOf [], [], [.tmp 8]⟩
theorem impl_Problem_cost.h (R : List Item → St → Option (PD impl_Problem_cost.rs)) (a0 : List (List Int)) (a1 : List (List Int)) (a2 : Int) (a3 : Int) (a4 : Int) : run (impl_Problem_cost.E) R 4000 true [.code (bodyOf Try.f35)] (stA (impl_Problem_cost.E) [.v (.list (.list (.int .i64))) a0, .v (.list (.list (.int .i64))) a1, .v (.int .i64) a2, .v (.int .i64) a3, .v (.int .i64) a4]) = impl_Problem_cost.B a0 a1 a2 a3 a4 := by kernel_rfl
theorem impl_Problem_cost.eok : EOk Try.prog (impl_Problem_cost.E) Try.f35 :=
  ⟨Try.func35, Try.ntmps35, by kernel_rfl, tab_ok, mixed, cuts_of (by kernel_rfl), Tab.ok .nil, by kernel_rfl⟩
theorem impl_Problem_cost.run (a0 : List (List Int)) (a1 : List (List Int)) (a2 : Int) (a3 : Int) (a4 : Int): FF (impl_Problem_cost.E) 1 [.code (bodyOf Try.f35)] (stA (impl_Problem_cost.E) [.v (.list (.list (.int .i64))) a0, .v (.list (.list (.int .i64))) a1, .v (.int .i64) a2, .v (.int .i64) a3, .v (.int .i64) a4]) = impl_Problem_cost.f a0 a1 a2 a3 a4 :=
  (FF_succ ..).trans (impl_Problem_cost.h (fun t s => FF (impl_Problem_cost.E) 0 t s) a0 a1 a2 a3 a4)
theorem impl_Problem_cost.ok : FnOK Try.prog impl_Problem_cost.ent impl_Problem_cost.ts impl_Problem_cost.rs fun a => impl_Problem_cost.f a.1 a.2.1 a.2.2.1 a.2.2.2.1 a.2.2.2.2 :=
  ⟨hasBody_of Try.func35 (by kernel_rfl), by kernel_rfl, by kernel_rfl, fun a r hr => good_of (E := (impl_Problem_cost.E)) (k := 1) (xs := encL impl_Problem_cost.ts a) (impl_Problem_cost.eok) (body := (bodyOf Try.f35)) (by kernel_rfl) (by kernel_rfl) ((impl_Problem_cost.run a.1 a.2.1 a.2.2.1 a.2.2.2.1 a.2.2.2.2).trans hr)⟩

end
end Go.Proofs.Ytobfbgmglopdhaa
