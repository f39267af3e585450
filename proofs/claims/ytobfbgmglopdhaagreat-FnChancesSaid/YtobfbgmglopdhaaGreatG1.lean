/- Proved: what each function that the law reaches computes (first part), for every argument at which the plain function answers. -/
import Derived.Test.YtobfbgmglopdhaaGreatA3
import Derived.Test.YtobfbgmglopdhaaGreatProg
set_option linter.unusedVariables false
set_option linter.unusedSimpArgs false
set_option maxRecDepth 1000000
set_option maxHeartbeats 2000000
set_option linter.unusedVariables false
namespace Go.Proofs.YtobfbgmglopdhaaGreat
open Go Ab
noncomputable section
def tab : TT := [
  (3, ⟨.int .i64, 1, [.v (.int .i64) (0 : Int)], false, some (.int .i64), []⟩),
  (4, ⟨.bool, 1, [.v (.bool) (false : Bool)], false, some (.bool), []⟩),
  (5, ⟨.int .u8, 1, [.v (.int .u8) (0 : Int)], false, some (.int .u8), []⟩),
  (22, ⟨.slice 5, 1, [.nsl], false, some (.list (.int .u8)), []⟩),
  (24, ⟨.slice 27, 1, [.nsl], false, some (.list (.list (.int .i64))), []⟩),
  (26, ⟨.strct [(0, 1, false), (1, 1, false)], 2, [.nsl, .nsl], true, some (.pair (.list (.list (.int .i64))) (.list (.list (.int .i64)))), []⟩),
  (27, ⟨.slice 3, 1, [.nsl], false, some (.list (.int .i64)), []⟩),
  (29, ⟨.strct [(0, 1, false), (1, 1, false)], 2, [.nsl, .nsl], true, some (.pair (.list (.int .i64)) (.list (.list (.int .i64)))), []⟩),
  (38, ⟨.strct [(0, 1, false), (1, 1, false)], 2, [.v (.int .i64) (0 : Int), .v (.int .i64) (0 : Int)], true, some (.pair (.int .i64) (.int .i64)), [.int .i64, .int .i64]⟩),
  (46, ⟨.int .u64, 1, [.v (.int .u64) (0 : Int)], false, some (.int .u64), []⟩),
  (48, ⟨.strct [(0, 1, false), (1, 1, false), (2, 1, false)], 3, [.nsl, .v (.int .i64) (0 : Int), .v (.int .u64) (0 : Int)], true, some (.pair (.list (.int .u8)) (.pair (.int .i64) (.int .u64))), []⟩),
  (72, ⟨.strct [(0, 1, false)], 1, [.nsl], true, some (.list (.list (.int .i64))), []⟩),
  (111, ⟨.int .u64, 1, [.v (.int .u64) (0 : Int)], false, some (.int .u64), []⟩)]
theorem tab_ok : ttOk Tryz.prog tab = true := by kernel_rfl
theorem mixed : Tryz.prog.follows .mixedOrders = true := by kernel_rfl

def laws_vBig.B (a0 : List Int) : Option (Bool) :=
  some (decide ((65536 : Int) < (a0.length : Int)))
def laws_vBig.f (a0 : List Int) : Option (Bool) := laws_vBig.B a0
def laws_vBig.ent : Ent := ⟨4, [.h (.list (.int .u8))], [], .h (.bool), [], 0⟩
abbrev laws_vBig.ts : List Ty := [.list (.int .u8)]
abbrev laws_vBig.rs : List Ty := [.bool]
noncomputable def laws_vBig.E : Env :=
  ⟨tab, 6, laws_vBig.ent, laws_vBig.rs, [], ctOf [], [], [.tmp 2]⟩
theorem laws_vBig.h (R : List Item → St → Option (PD laws_vBig.rs)) (a0 : List Int) : run (laws_vBig.E) R 4000 true [.code (bodyOf Tryz.f4)] (stA (laws_vBig.E) [.v (.list (.int .u8)) a0]) = laws_vBig.B a0 := by kernel_rfl
theorem laws_vBig.eok : EOk Tryz.prog (laws_vBig.E) Tryz.f4 :=
  ⟨Tryz.func4, Tryz.ntmps4, by kernel_rfl, tab_ok, mixed, cuts_of (by kernel_rfl), Tab.ok .nil, by kernel_rfl⟩
theorem laws_vBig.run (a0 : List Int): FF (laws_vBig.E) 1 [.code (bodyOf Tryz.f4)] (stA (laws_vBig.E) [.v (.list (.int .u8)) a0]) = laws_vBig.f a0 :=
  (FF_succ ..).trans (laws_vBig.h (fun t s => FF (laws_vBig.E) 0 t s) a0)
theorem laws_vBig.ok : FnOK Tryz.prog laws_vBig.ent laws_vBig.ts laws_vBig.rs fun a => laws_vBig.f a :=
  ⟨hasBody_of Tryz.func4 (by kernel_rfl), by kernel_rfl, by kernel_rfl, fun a r hr => good_of (E := (laws_vBig.E)) (k := 1) (xs := encL laws_vBig.ts a) (laws_vBig.eok) (body := (bodyOf Tryz.f4)) (by kernel_rfl) (by kernel_rfl) ((laws_vBig.run a).trans hr)⟩

def spec_l1Cur_next.B (a0 : List Int) (a1 : Int) (a2 : Int) : Option (Int × List Int × Int × Int) :=
  bif decide (a1 < (a0.length : Int)) then (if (0 : Int) ≤ a1 ∧ a1 < (a0.length : Int) then (bif decide (w64 (a1 + 1) ≤ (a0.length : Int)) then some (w64 (a0.getD a1.toNat 0), a0, w64 (a1 + 1), IntKind.u64.wrap ((IntKind.u64.wrap ((IntKind.u64.wrap (a2 * 6364136223846793005)) + (IntKind.u64.wrap (w64 (a0.getD a1.toNat 0))))) + 462197)) else (if (0 : Int) ≤ 40 then some (w64 (IntKind.u64.wrap (BitVec.ofInt IntKind.u64.bits (Int.fdiv (IntKind.u64.wrap ((IntKind.u64.wrap ((IntKind.u64.wrap (a2 * 6364136223846793005)) + (IntKind.u64.wrap (w64 (a0.getD a1.toNat 0))))) + 462197)) (2 ^ (min 40 IntKind.u64.bits))) &&& BitVec.ofInt IntKind.u64.bits 255).toNat), a0, w64 (a1 + 1), IntKind.u64.wrap ((IntKind.u64.wrap ((IntKind.u64.wrap (a2 * 6364136223846793005)) + (IntKind.u64.wrap (w64 (a0.getD a1.toNat 0))))) + 462197)) else none)) else none) else (bif decide (w64 (a1 + 1) ≤ (a0.length : Int)) then some (0, a0, w64 (a1 + 1), IntKind.u64.wrap ((IntKind.u64.wrap ((IntKind.u64.wrap (a2 * 6364136223846793005)) + (IntKind.u64.wrap (0)))) + 462197)) else (if (0 : Int) ≤ 40 then some (w64 (IntKind.u64.wrap (BitVec.ofInt IntKind.u64.bits (Int.fdiv (IntKind.u64.wrap ((IntKind.u64.wrap ((IntKind.u64.wrap (a2 * 6364136223846793005)) + (IntKind.u64.wrap (0)))) + 462197)) (2 ^ (min 40 IntKind.u64.bits))) &&& BitVec.ofInt IntKind.u64.bits 255).toNat), a0, w64 (a1 + 1), IntKind.u64.wrap ((IntKind.u64.wrap ((IntKind.u64.wrap (a2 * 6364136223846793005)) + (IntKind.u64.wrap (0)))) + 462197)) else none))
def spec_l1Cur_next.f (a0 : List Int) (a1 : Int) (a2 : Int) : Option (Int × List Int × Int × Int) := spec_l1Cur_next.B a0 a1 a2
def spec_l1Cur_next.ent : Ent := ⟨92, [.p 0], [.box [.h (.list (.int .u8)), .h (.int .i64), .h (.int .u64)]], .h (.int .i64), [.box [.h (.list (.int .u8)), .h (.int .i64), .h (.int .u64)]], 1⟩
abbrev spec_l1Cur_next.ts : List Ty := [.list (.int .u8), .int .i64, .int .u64]
abbrev spec_l1Cur_next.rs : List Ty := [.int .i64, .list (.int .u8), .int .i64, .int .u64]
noncomputable def spec_l1Cur_next.E : Env :=
  ⟨tab, 62, spec_l1Cur_next.ent, spec_l1Cur_next.rs, [], ctOf [], [], [.tmp 2]⟩
theorem spec_l1Cur_next.h (R : List Item → St → Option (PD spec_l1Cur_next.rs)) (a0 : List Int) (a1 : Int) (a2 : Int) : run (spec_l1Cur_next.E) R 4000 true [.code (bodyOf Tryz.f92)] (stA (spec_l1Cur_next.E) [.v (.list (.int .u8)) a0, .v (.int .i64) a1, .v (.int .u64) a2]) = spec_l1Cur_next.B a0 a1 a2 := by kernel_rfl
theorem spec_l1Cur_next.eok : EOk Tryz.prog (spec_l1Cur_next.E) Tryz.f92 :=
  ⟨Tryz.func92, Tryz.ntmps92, by kernel_rfl, tab_ok, mixed, cuts_of (by kernel_rfl), Tab.ok .nil, by kernel_rfl⟩
theorem spec_l1Cur_next.run (a0 : List Int) (a1 : Int) (a2 : Int): FF (spec_l1Cur_next.E) 1 [.code (bodyOf Tryz.f92)] (stA (spec_l1Cur_next.E) [.v (.list (.int .u8)) a0, .v (.int .i64) a1, .v (.int .u64) a2]) = spec_l1Cur_next.f a0 a1 a2 :=
  (FF_succ ..).trans (spec_l1Cur_next.h (fun t s => FF (spec_l1Cur_next.E) 0 t s) a0 a1 a2)
theorem spec_l1Cur_next.ok : FnOK Tryz.prog spec_l1Cur_next.ent spec_l1Cur_next.ts spec_l1Cur_next.rs fun a => spec_l1Cur_next.f a.1 a.2.1 a.2.2 :=
  ⟨hasBody_of Tryz.func92 (by kernel_rfl), by kernel_rfl, by kernel_rfl, fun a r hr => good_of (E := (spec_l1Cur_next.E)) (k := 1) (xs := encL spec_l1Cur_next.ts a) (spec_l1Cur_next.eok) (body := (bodyOf Tryz.f92)) (by kernel_rfl) (by kernel_rfl) ((spec_l1Cur_next.run a.1 a.2.1 a.2.2).trans hr)⟩

def spec_l1Cur_pick.B (a0 : Int) (a1 : List Int) (a2 : Int) (a3 : Int) : Option (Int × List Int × Int × Int) :=
  bif decide (a0 ≤ (1 : Int)) then some (0, a1, a2, a3) else ((spec_l1Cur_next.f a1 a2 a3).bind fun t1 => (bif decide ((200 : Int) < a0) then ((spec_l1Cur_next.f t1.2.1 t1.2.2.1 t1.2.2.2).bind fun t2 => (if a0 ≠ 0 then some (Int.tmod (w64 ((w64 (t1.1 * 256)) + t2.1)) a0, t2.2.1, t2.2.2.1, t2.2.2.2) else none)) else (if a0 ≠ 0 then some (Int.tmod t1.1 a0, t1.2.1, t1.2.2.1, t1.2.2.2) else none)))
def spec_l1Cur_pick.f (a0 : Int) (a1 : List Int) (a2 : Int) (a3 : Int) : Option (Int × List Int × Int × Int) := spec_l1Cur_pick.B a0 a1 a2 a3
def spec_l1Cur_pick.ent : Ent := ⟨47, [.p 0, .h (.int .i64)], [.box [.h (.list (.int .u8)), .h (.int .i64), .h (.int .u64)]], .h (.int .i64), [.box [.h (.list (.int .u8)), .h (.int .i64), .h (.int .u64)]], 2⟩
abbrev spec_l1Cur_pick.ts : List Ty := [.int .i64, .list (.int .u8), .int .i64, .int .u64]
abbrev spec_l1Cur_pick.rs : List Ty := [.int .i64, .list (.int .u8), .int .i64, .int .u64]
noncomputable def spec_l1Cur_pick.E : Env :=
  ⟨tab, 20, spec_l1Cur_pick.ent, spec_l1Cur_pick.rs, [spec_l1Cur_next.ent], ctOf [(1, mkF spec_l1Cur_next.ts spec_l1Cur_next.rs fun a => spec_l1Cur_next.f a.1 a.2.1 a.2.2)], [], [.tmp 4]⟩
theorem spec_l1Cur_pick.h (R : List Item → St → Option (PD spec_l1Cur_pick.rs)) (a0 : Int) (a1 : List Int) (a2 : Int) (a3 : Int) : run (spec_l1Cur_pick.E) R 4000 true [.code (bodyOf Tryz.f47)] (stA (spec_l1Cur_pick.E) [.v (.int .i64) a0, .v (.list (.int .u8)) a1, .v (.int .i64) a2, .v (.int .u64) a3]) = spec_l1Cur_pick.B a0 a1 a2 a3 := by kernel_rfl
theorem spec_l1Cur_pick.eok : EOk Tryz.prog (spec_l1Cur_pick.E) Tryz.f47 :=
  ⟨Tryz.func47, Tryz.ntmps47, by kernel_rfl, tab_ok, mixed, cuts_of (by kernel_rfl), Tab.ok (.cons (spec_l1Cur_next.ok) (by kernel_rfl) .nil), by kernel_rfl⟩
theorem spec_l1Cur_pick.run (a0 : Int) (a1 : List Int) (a2 : Int) (a3 : Int): FF (spec_l1Cur_pick.E) 1 [.code (bodyOf Tryz.f47)] (stA (spec_l1Cur_pick.E) [.v (.int .i64) a0, .v (.list (.int .u8)) a1, .v (.int .i64) a2, .v (.int .u64) a3]) = spec_l1Cur_pick.f a0 a1 a2 a3 :=
  (FF_succ ..).trans (spec_l1Cur_pick.h (fun t s => FF (spec_l1Cur_pick.E) 0 t s) a0 a1 a2 a3)
theorem spec_l1Cur_pick.ok : FnOK Tryz.prog spec_l1Cur_pick.ent spec_l1Cur_pick.ts spec_l1Cur_pick.rs fun a => spec_l1Cur_pick.f a.1 a.2.1 a.2.2.1 a.2.2.2 :=
  ⟨hasBody_of Tryz.func47 (by kernel_rfl), by kernel_rfl, by kernel_rfl, fun a r hr => good_of (E := (spec_l1Cur_pick.E)) (k := 1) (xs := encL spec_l1Cur_pick.ts a) (spec_l1Cur_pick.eok) (body := (bodyOf Tryz.f47)) (by kernel_rfl) (by kernel_rfl) ((spec_l1Cur_pick.run a.1 a.2.1 a.2.2.1 a.2.2.2).trans hr)⟩

def spec_l1Cur_among.B (a0 : List Int) (a1 : List Int) (a2 : Int) (a3 : Int) : Option (Int × List Int × Int × Int) :=
  (spec_l1Cur_pick.f (a0.length : Int) a1 a2 a3).bind fun t1 => (if (0 : Int) ≤ t1.1 ∧ t1.1 < (a0.length : Int) then some (a0.getD t1.1.toNat 0, t1.2.1, t1.2.2.1, t1.2.2.2) else none)
def spec_l1Cur_among.f (a0 : List Int) (a1 : List Int) (a2 : Int) (a3 : Int) : Option (Int × List Int × Int × Int) := spec_l1Cur_among.B a0 a1 a2 a3
def spec_l1Cur_among.ent : Ent := ⟨45, [.p 0, .h (.list (.int .i64))], [.box [.h (.list (.int .u8)), .h (.int .i64), .h (.int .u64)]], .h (.int .i64), [.box [.h (.list (.int .u8)), .h (.int .i64), .h (.int .u64)]], 3⟩
abbrev spec_l1Cur_among.ts : List Ty := [.list (.int .i64), .list (.int .u8), .int .i64, .int .u64]
abbrev spec_l1Cur_among.rs : List Ty := [.int .i64, .list (.int .u8), .int .i64, .int .u64]
noncomputable def spec_l1Cur_among.E : Env :=
  ⟨tab, 12, spec_l1Cur_among.ent, spec_l1Cur_among.rs, [spec_l1Cur_pick.ent], ctOf [(2, mkF spec_l1Cur_pick.ts spec_l1Cur_pick.rs fun a => spec_l1Cur_pick.f a.1 a.2.1 a.2.2.1 a.2.2.2)], [], [.tmp 4]⟩
theorem spec_l1Cur_among.h (R : List Item → St → Option (PD spec_l1Cur_among.rs)) (a0 : List Int) (a1 : List Int) (a2 : Int) (a3 : Int) : run (spec_l1Cur_among.E) R 4000 true [.code (bodyOf Tryz.f45)] (stA (spec_l1Cur_among.E) [.v (.list (.int .i64)) a0, .v (.list (.int .u8)) a1, .v (.int .i64) a2, .v (.int .u64) a3]) = spec_l1Cur_among.B a0 a1 a2 a3 := by kernel_rfl
theorem spec_l1Cur_among.eok : EOk Tryz.prog (spec_l1Cur_among.E) Tryz.f45 :=
  ⟨Tryz.func45, Tryz.ntmps45, by kernel_rfl, tab_ok, mixed, cuts_of (by kernel_rfl), Tab.ok (.cons (spec_l1Cur_pick.ok) (by kernel_rfl) .nil), by kernel_rfl⟩
theorem spec_l1Cur_among.run (a0 : List Int) (a1 : List Int) (a2 : Int) (a3 : Int): FF (spec_l1Cur_among.E) 1 [.code (bodyOf Tryz.f45)] (stA (spec_l1Cur_among.E) [.v (.list (.int .i64)) a0, .v (.list (.int .u8)) a1, .v (.int .i64) a2, .v (.int .u64) a3]) = spec_l1Cur_among.f a0 a1 a2 a3 :=
  (FF_succ ..).trans (spec_l1Cur_among.h (fun t s => FF (spec_l1Cur_among.E) 0 t s) a0 a1 a2 a3)
theorem spec_l1Cur_among.ok : FnOK Tryz.prog spec_l1Cur_among.ent spec_l1Cur_among.ts spec_l1Cur_among.rs fun a => spec_l1Cur_among.f a.1 a.2.1 a.2.2.1 a.2.2.2 :=
  ⟨hasBody_of Tryz.func45 (by kernel_rfl), by kernel_rfl, by kernel_rfl, fun a r hr => good_of (E := (spec_l1Cur_among.E)) (k := 1) (xs := encL spec_l1Cur_among.ts a) (spec_l1Cur_among.eok) (body := (bodyOf Tryz.f45)) (by kernel_rfl) (by kernel_rfl) ((spec_l1Cur_among.run a.1 a.2.1 a.2.2.1 a.2.2.2).trans hr)⟩

def spec_l6Uniform.B3 (k : Nat) (r3 : Int → Int → Int → List (List Int) → List (List Int) → Option (List (List Int))) (r7 : Int → Int → Int → Int → List (List Int) → List (List Int) → List Int → Option (List (List Int))) (x0 : Int) (x1 : Int) (x6 : Int) (x4_0 : List (List Int)) (x5_0 : List (List Int)) : Option (List (List Int)) :=
  bif decide (x6 < x0) then (r7 x0 x1 x6 0 x4_0 x5_0 []) else some x5_0
def spec_l6Uniform.B7 (k : Nat) (r3 : Int → Int → Int → List (List Int) → List (List Int) → Option (List (List Int))) (r7 : Int → Int → Int → Int → List (List Int) → List (List Int) → List Int → Option (List (List Int))) (x0 : Int) (x1 : Int) (x6 : Int) (x8 : Int) (x4_0 : List (List Int)) (x5_0 : List (List Int)) (x7 : List Int) : Option (List (List Int)) :=
  bif decide (x8 < x0) then (bif decide (x6 = x8) then (if x7.length + 1 ≤ capB then (r7 x0 x1 x6 (w64 (x8 + 1)) x4_0 x5_0 (x7 ++ [0])) else none) else (if x7.length + 1 ≤ capB then (r7 x0 x1 x6 (w64 (x8 + 1)) x4_0 x5_0 (x7 ++ [x1])) else none)) else (if x5_0.length + 1 ≤ capB then (r3 x0 x1 (w64 (x6 + 1)) x4_0 (x5_0 ++ [x7])) else none)
def spec_l6Uniform.B (k : Nat) (r3 : Int → Int → Int → List (List Int) → List (List Int) → Option (List (List Int))) (r7 : Int → Int → Int → Int → List (List Int) → List (List Int) → List Int → Option (List (List Int))) (a0 : Int) (a1 : Int) : Option (List (List Int)) :=
  r3 a0 a1 0 [] []
def spec_l6Uniform.bs (k : Nat) : Nat → (Int → Int → Int → List (List Int) → List (List Int) → Option (List (List Int))) × (Int → Int → Int → Int → List (List Int) → List (List Int) → List Int → Option (List (List Int)))
  | 0 => (fun _ _ _ _ _ => none, fun _ _ _ _ _ _ _ => none)
  | n + 1 => (spec_l6Uniform.B3 k ((spec_l6Uniform.bs k n).1) ((spec_l6Uniform.bs k n).2), spec_l6Uniform.B7 k ((spec_l6Uniform.bs k n).1) ((spec_l6Uniform.bs k n).2))
def spec_l6Uniform.f (k : Nat) (a0 : Int) (a1 : Int) : Option (List (List Int)) := spec_l6Uniform.B k ((spec_l6Uniform.bs k k).1) ((spec_l6Uniform.bs k k).2) a0 a1
def spec_l6Uniform.ent : Ent := ⟨46, [.h (.int .i64), .h (.int .i64)], [], .agg [.ownm 0 (.int .i64)], [.mat (.int .i64)], 4⟩
abbrev spec_l6Uniform.ts : List Ty := [.int .i64, .int .i64]
abbrev spec_l6Uniform.rs : List Ty := [.list (.list (.int .i64))]
def spec_l6Uniform.c3 : Cut := ⟨3, [(0, .h (.int .i64)), (1, .h (.int .i64)), (4, .p 0), (5, .p 2), (6, .h (.int .i64))], [.box [.ownm 1 (.int .i64)], .mat (.int .i64), .box [.ownm 3 (.int .i64)], .mat (.int .i64)]⟩
def spec_l6Uniform.c7 : Cut := ⟨7, [(0, .h (.int .i64)), (1, .h (.int .i64)), (4, .p 0), (5, .p 2), (6, .h (.int .i64)), (7, .own 4 (.int .i64)), (8, .h (.int .i64))], [.box [.ownm 1 (.int .i64)], .mat (.int .i64), .box [.ownm 3 (.int .i64)], .mat (.int .i64), .buf (.int .i64)]⟩
noncomputable def spec_l6Uniform.E (k : Nat) : Env :=
  ⟨tab, 39, spec_l6Uniform.ent, spec_l6Uniform.rs, [], ctOf [], [spec_l6Uniform.c3, spec_l6Uniform.c7], [.cell 4 72]⟩
noncomputable def spec_l6Uniform.S3 : List Item := stk (bodyOf Tryz.f46) 3
noncomputable def spec_l6Uniform.m3 (x0 : Int) (x1 : Int) (x6 : Int) (x4_0 : List (List Int)) (x5_0 : List (List Int)) : St := mkS spec_l6Uniform.c3 [.v (.int .i64) x0, .v (.int .i64) x1, .v (.int .i64) x6, .v (.list (.list (.int .i64))) x4_0, .v (.list (.list (.int .i64))) x5_0]
noncomputable def spec_l6Uniform.S7 : List Item := stk (bodyOf Tryz.f46) 7
noncomputable def spec_l6Uniform.m7 (x0 : Int) (x1 : Int) (x6 : Int) (x8 : Int) (x4_0 : List (List Int)) (x5_0 : List (List Int)) (x7 : List Int) : St := mkS spec_l6Uniform.c7 [.v (.int .i64) x0, .v (.int .i64) x1, .v (.int .i64) x6, .v (.int .i64) x8, .v (.list (.list (.int .i64))) x4_0, .v (.list (.list (.int .i64))) x5_0, .v (.list (.int .i64)) x7]
theorem spec_l6Uniform.h3 (k : Nat) (R : List Item → St → Option (PD spec_l6Uniform.rs)) (x0 : Int) (x1 : Int) (x6 : Int) (x4_0 : List (List Int)) (x5_0 : List (List Int)) : run (spec_l6Uniform.E k) R 4000 true spec_l6Uniform.S3 (spec_l6Uniform.m3 x0 x1 x6 x4_0 x5_0) = spec_l6Uniform.B3 k (fun x0 x1 x6 x4_0 x5_0 => R spec_l6Uniform.S3 (spec_l6Uniform.m3 x0 x1 x6 x4_0 x5_0)) (fun x0 x1 x6 x8 x4_0 x5_0 x7 => R spec_l6Uniform.S7 (spec_l6Uniform.m7 x0 x1 x6 x8 x4_0 x5_0 x7)) x0 x1 x6 x4_0 x5_0 := by kernel_rfl
theorem spec_l6Uniform.h7 (k : Nat) (R : List Item → St → Option (PD spec_l6Uniform.rs)) (x0 : Int) (x1 : Int) (x6 : Int) (x8 : Int) (x4_0 : List (List Int)) (x5_0 : List (List Int)) (x7 : List Int) : run (spec_l6Uniform.E k) R 4000 true spec_l6Uniform.S7 (spec_l6Uniform.m7 x0 x1 x6 x8 x4_0 x5_0 x7) = spec_l6Uniform.B7 k (fun x0 x1 x6 x4_0 x5_0 => R spec_l6Uniform.S3 (spec_l6Uniform.m3 x0 x1 x6 x4_0 x5_0)) (fun x0 x1 x6 x8 x4_0 x5_0 x7 => R spec_l6Uniform.S7 (spec_l6Uniform.m7 x0 x1 x6 x8 x4_0 x5_0 x7)) x0 x1 x6 x8 x4_0 x5_0 x7 := by kernel_rfl
theorem spec_l6Uniform.h (k : Nat) (R : List Item → St → Option (PD spec_l6Uniform.rs)) (a0 : Int) (a1 : Int) : run (spec_l6Uniform.E k) R 4000 true [.code (bodyOf Tryz.f46)] (stA (spec_l6Uniform.E k) [.v (.int .i64) a0, .v (.int .i64) a1]) = spec_l6Uniform.B k (fun x0 x1 x6 x4_0 x5_0 => R spec_l6Uniform.S3 (spec_l6Uniform.m3 x0 x1 x6 x4_0 x5_0)) (fun x0 x1 x6 x8 x4_0 x5_0 x7 => R spec_l6Uniform.S7 (spec_l6Uniform.m7 x0 x1 x6 x8 x4_0 x5_0 x7)) a0 a1 := by kernel_rfl
theorem spec_l6Uniform.eok (k : Nat) : EOk Tryz.prog (spec_l6Uniform.E k) Tryz.f46 :=
  ⟨Tryz.func46, Tryz.ntmps46, by kernel_rfl, tab_ok, mixed, cuts_of (by kernel_rfl), Tab.ok .nil, by kernel_rfl⟩
theorem spec_l6Uniform.ff (k : Nat) : ∀ n : Nat, ((fun x0 x1 x6 x4_0 x5_0 => FF (spec_l6Uniform.E k) n spec_l6Uniform.S3 (spec_l6Uniform.m3 x0 x1 x6 x4_0 x5_0)), (fun x0 x1 x6 x8 x4_0 x5_0 x7 => FF (spec_l6Uniform.E k) n spec_l6Uniform.S7 (spec_l6Uniform.m7 x0 x1 x6 x8 x4_0 x5_0 x7))) = spec_l6Uniform.bs k n
  | 0 => rfl
  | n + 1 => by
    show ((fun x0 x1 x6 x4_0 x5_0 => FF (spec_l6Uniform.E k) (n + 1) spec_l6Uniform.S3 (spec_l6Uniform.m3 x0 x1 x6 x4_0 x5_0)), (fun x0 x1 x6 x8 x4_0 x5_0 x7 => FF (spec_l6Uniform.E k) (n + 1) spec_l6Uniform.S7 (spec_l6Uniform.m7 x0 x1 x6 x8 x4_0 x5_0 x7))) = (spec_l6Uniform.B3 k ((spec_l6Uniform.bs k n).1) ((spec_l6Uniform.bs k n).2), spec_l6Uniform.B7 k ((spec_l6Uniform.bs k n).1) ((spec_l6Uniform.bs k n).2))
    rw [← spec_l6Uniform.ff k n]
    exact (Prod.ext (funext fun x0 => funext fun x1 => funext fun x6 => funext fun x4_0 => funext fun x5_0 => by dsimp only; exact (FF_succ ..).trans (spec_l6Uniform.h3 k (fun t s => FF (spec_l6Uniform.E k) n t s) x0 x1 x6 x4_0 x5_0)) (funext fun x0 => funext fun x1 => funext fun x6 => funext fun x8 => funext fun x4_0 => funext fun x5_0 => funext fun x7 => by dsimp only; exact (FF_succ ..).trans (spec_l6Uniform.h7 k (fun t s => FF (spec_l6Uniform.E k) n t s) x0 x1 x6 x8 x4_0 x5_0 x7)))
theorem spec_l6Uniform.run (k : Nat) (a0 : Int) (a1 : Int): FF (spec_l6Uniform.E k) (k + 1) [.code (bodyOf Tryz.f46)] (stA (spec_l6Uniform.E k) [.v (.int .i64) a0, .v (.int .i64) a1]) = spec_l6Uniform.f k a0 a1 :=
  (FF_succ ..).trans ((spec_l6Uniform.h k (fun t s => FF (spec_l6Uniform.E k) k t s) a0 a1).trans (by
    show _ = spec_l6Uniform.B k ((spec_l6Uniform.bs k k).1) ((spec_l6Uniform.bs k k).2) a0 a1
    rw [← spec_l6Uniform.ff k k]))
theorem spec_l6Uniform.ok (k : Nat) : FnOK Tryz.prog spec_l6Uniform.ent spec_l6Uniform.ts spec_l6Uniform.rs fun a => spec_l6Uniform.f k a.1 a.2 :=
  ⟨hasBody_of Tryz.func46 (by kernel_rfl), by kernel_rfl, by kernel_rfl, fun a r hr => good_of (E := (spec_l6Uniform.E k)) (k := (k + 1)) (xs := encL spec_l6Uniform.ts a) (spec_l6Uniform.eok k) (body := (bodyOf Tryz.f46)) (by kernel_rfl) (by kernel_rfl) ((spec_l6Uniform.run k a.1 a.2).trans hr)⟩

def spec_l1Cur_one.B (a0 : Int) (a1 : List Int) (a2 : Int) (a3 : Int) : Option (Bool × List Int × Int × Int) :=
  (spec_l1Cur_pick.f a0 a1 a2 a3).bind fun t1 => some (decide (t1.1 = (0 : Int)), t1.2.1, t1.2.2.1, t1.2.2.2)
def spec_l1Cur_one.f (a0 : Int) (a1 : List Int) (a2 : Int) (a3 : Int) : Option (Bool × List Int × Int × Int) := spec_l1Cur_one.B a0 a1 a2 a3
def spec_l1Cur_one.ent : Ent := ⟨48, [.p 0, .h (.int .i64)], [.box [.h (.list (.int .u8)), .h (.int .i64), .h (.int .u64)]], .h (.bool), [.box [.h (.list (.int .u8)), .h (.int .i64), .h (.int .u64)]], 5⟩
abbrev spec_l1Cur_one.ts : List Ty := [.int .i64, .list (.int .u8), .int .i64, .int .u64]
abbrev spec_l1Cur_one.rs : List Ty := [.bool, .list (.int .u8), .int .i64, .int .u64]
noncomputable def spec_l1Cur_one.E : Env :=
  ⟨tab, 9, spec_l1Cur_one.ent, spec_l1Cur_one.rs, [spec_l1Cur_pick.ent], ctOf [(2, mkF spec_l1Cur_pick.ts spec_l1Cur_pick.rs fun a => spec_l1Cur_pick.f a.1 a.2.1 a.2.2.1 a.2.2.2)], [], [.tmp 4]⟩
theorem spec_l1Cur_one.h (R : List Item → St → Option (PD spec_l1Cur_one.rs)) (a0 : Int) (a1 : List Int) (a2 : Int) (a3 : Int) : run (spec_l1Cur_one.E) R 4000 true [.code (bodyOf Tryz.f48)] (stA (spec_l1Cur_one.E) [.v (.int .i64) a0, .v (.list (.int .u8)) a1, .v (.int .i64) a2, .v (.int .u64) a3]) = spec_l1Cur_one.B a0 a1 a2 a3 := by kernel_rfl
theorem spec_l1Cur_one.eok : EOk Tryz.prog (spec_l1Cur_one.E) Tryz.f48 :=
  ⟨Tryz.func48, Tryz.ntmps48, by kernel_rfl, tab_ok, mixed, cuts_of (by kernel_rfl), Tab.ok (.cons (spec_l1Cur_pick.ok) (by kernel_rfl) .nil), by kernel_rfl⟩
theorem spec_l1Cur_one.run (a0 : Int) (a1 : List Int) (a2 : Int) (a3 : Int): FF (spec_l1Cur_one.E) 1 [.code (bodyOf Tryz.f48)] (stA (spec_l1Cur_one.E) [.v (.int .i64) a0, .v (.list (.int .u8)) a1, .v (.int .i64) a2, .v (.int .u64) a3]) = spec_l1Cur_one.f a0 a1 a2 a3 :=
  (FF_succ ..).trans (spec_l1Cur_one.h (fun t s => FF (spec_l1Cur_one.E) 0 t s) a0 a1 a2 a3)
theorem spec_l1Cur_one.ok : FnOK Tryz.prog spec_l1Cur_one.ent spec_l1Cur_one.ts spec_l1Cur_one.rs fun a => spec_l1Cur_one.f a.1 a.2.1 a.2.2.1 a.2.2.2 :=
  ⟨hasBody_of Tryz.func48 (by kernel_rfl), by kernel_rfl, by kernel_rfl, fun a r hr => good_of (E := (spec_l1Cur_one.E)) (k := 1) (xs := encL spec_l1Cur_one.ts a) (spec_l1Cur_one.eok) (body := (bodyOf Tryz.f48)) (by kernel_rfl) (by kernel_rfl) ((spec_l1Cur_one.run a.1 a.2.1 a.2.2.1 a.2.2.2).trans hr)⟩

def spec_l1Most.B (a0 : Int) (a1 : Int) : Option (Int) :=
  bif decide (a1 < a0) then some a0 else some a1
def spec_l1Most.f (a0 : Int) (a1 : Int) : Option (Int) := spec_l1Most.B a0 a1
def spec_l1Most.ent : Ent := ⟨52, [.h (.int .i64), .h (.int .i64)], [], .h (.int .i64), [], 6⟩
abbrev spec_l1Most.ts : List Ty := [.int .i64, .int .i64]
abbrev spec_l1Most.rs : List Ty := [.int .i64]
noncomputable def spec_l1Most.E : Env :=
  ⟨tab, 10, spec_l1Most.ent, spec_l1Most.rs, [], ctOf [], [], [.tmp 4]⟩
theorem spec_l1Most.h (R : List Item → St → Option (PD spec_l1Most.rs)) (a0 : Int) (a1 : Int) : run (spec_l1Most.E) R 4000 true [.code (bodyOf Tryz.f52)] (stA (spec_l1Most.E) [.v (.int .i64) a0, .v (.int .i64) a1]) = spec_l1Most.B a0 a1 := by kernel_rfl
theorem spec_l1Most.eok : EOk Tryz.prog (spec_l1Most.E) Tryz.f52 :=
  ⟨Tryz.func52, Tryz.ntmps52, by kernel_rfl, tab_ok, mixed, cuts_of (by kernel_rfl), Tab.ok .nil, by kernel_rfl⟩
theorem spec_l1Most.run (a0 : Int) (a1 : Int): FF (spec_l1Most.E) 1 [.code (bodyOf Tryz.f52)] (stA (spec_l1Most.E) [.v (.int .i64) a0, .v (.int .i64) a1]) = spec_l1Most.f a0 a1 :=
  (FF_succ ..).trans (spec_l1Most.h (fun t s => FF (spec_l1Most.E) 0 t s) a0 a1)
theorem spec_l1Most.ok : FnOK Tryz.prog spec_l1Most.ent spec_l1Most.ts spec_l1Most.rs fun a => spec_l1Most.f a.1 a.2 :=
  ⟨hasBody_of Tryz.func52 (by kernel_rfl), by kernel_rfl, by kernel_rfl, fun a r hr => good_of (E := (spec_l1Most.E)) (k := 1) (xs := encL spec_l1Most.ts a) (spec_l1Most.eok) (body := (bodyOf Tryz.f52)) (by kernel_rfl) (by kernel_rfl) ((spec_l1Most.run a.1 a.2).trans hr)⟩

def spec_l6Line.B3 (k : Nat) (r3 : List Int → Int → List (List Int) → List (List Int) → Option (List (List Int))) (r6 : List Int → Int → Int → List (List Int) → List (List Int) → Option (List (List Int))) (x0 : List Int) (x4 : Int) (x2_0 : List (List Int)) (x3_0 : List (List Int)) : Option (List (List Int)) :=
  bif decide (x4 < (x0.length : Int)) then (r6 x0 x4 0 x2_0 x3_0) else some x3_0
def spec_l6Line.B6 (k : Nat) (r3 : List Int → Int → List (List Int) → List (List Int) → Option (List (List Int))) (r6 : List Int → Int → Int → List (List Int) → List (List Int) → Option (List (List Int))) (x0 : List Int) (x4 : Int) (x5 : Int) (x2_0 : List (List Int)) (x3_0 : List (List Int)) : Option (List (List Int)) :=
  bif decide (x5 < (x0.length : Int)) then (if (0 : Int) ≤ x4 ∧ x4 < (x3_0.length : Int) then (if (0 : Int) ≤ x4 ∧ x4 < (x0.length : Int) then (if (0 : Int) ≤ x5 ∧ x5 < (x0.length : Int) then (if (0 : Int) ≤ x5 ∧ x5 < (x0.length : Int) then (if (0 : Int) ≤ x4 ∧ x4 < (x0.length : Int) then ((spec_l1Most.f (w64 ((x0.getD x4.toNat 0) - (x0.getD x5.toNat 0))) (w64 ((x0.getD x5.toNat 0) - (x0.getD x4.toNat 0)))).bind fun t2 => (if (0 : Int) ≤ x5 ∧ x5 < ((x3_0.getD x4.toNat []).length : Int) then (r6 x0 x4 (w64 (x5 + 1)) x2_0 (x3_0.set x4.toNat ((x3_0.getD x4.toNat []).set x5.toNat t2))) else none)) else none) else none) else none) else none) else none) else (r3 x0 (w64 (x4 + 1)) x2_0 x3_0)
def spec_l6Line.B (k : Nat) (r3 : List Int → Int → List (List Int) → List (List Int) → Option (List (List Int))) (r6 : List Int → Int → Int → List (List Int) → List (List Int) → Option (List (List Int))) (a0 : List Int) : Option (List (List Int)) :=
  (spec_l6Uniform.f k (a0.length : Int) 0).bind fun t1 => (r3 a0 0 [] t1)
def spec_l6Line.bs (k : Nat) : Nat → (List Int → Int → List (List Int) → List (List Int) → Option (List (List Int))) × (List Int → Int → Int → List (List Int) → List (List Int) → Option (List (List Int)))
  | 0 => (fun _ _ _ _ => none, fun _ _ _ _ _ => none)
  | n + 1 => (spec_l6Line.B3 k ((spec_l6Line.bs k n).1) ((spec_l6Line.bs k n).2), spec_l6Line.B6 k ((spec_l6Line.bs k n).1) ((spec_l6Line.bs k n).2))
def spec_l6Line.f (k : Nat) (a0 : List Int) : Option (List (List Int)) := spec_l6Line.B k ((spec_l6Line.bs k k).1) ((spec_l6Line.bs k k).2) a0
def spec_l6Line.ent : Ent := ⟨49, [.h (.list (.int .i64))], [], .agg [.ownm 0 (.int .i64)], [.mat (.int .i64)], 7⟩
abbrev spec_l6Line.ts : List Ty := [.list (.int .i64)]
abbrev spec_l6Line.rs : List Ty := [.list (.list (.int .i64))]
def spec_l6Line.c3 : Cut := ⟨3, [(0, .h (.list (.int .i64))), (2, .p 0), (3, .p 2), (4, .h (.int .i64))], [.box [.ownm 1 (.int .i64)], .mat (.int .i64), .box [.ownm 3 (.int .i64)], .mat (.int .i64)]⟩
def spec_l6Line.c6 : Cut := ⟨6, [(0, .h (.list (.int .i64))), (2, .p 0), (3, .p 2), (4, .h (.int .i64)), (5, .h (.int .i64))], [.box [.ownm 1 (.int .i64)], .mat (.int .i64), .box [.ownm 3 (.int .i64)], .mat (.int .i64)]⟩
noncomputable def spec_l6Line.E (k : Nat) : Env :=
  ⟨tab, 48, spec_l6Line.ent, spec_l6Line.rs, [spec_l6Uniform.ent, spec_l1Most.ent], ctOf [(4, mkF spec_l6Uniform.ts spec_l6Uniform.rs fun a => spec_l6Uniform.f k a.1 a.2),
    (6, mkF spec_l1Most.ts spec_l1Most.rs fun a => spec_l1Most.f a.1 a.2)], [spec_l6Line.c3, spec_l6Line.c6], [.cell 2 72]⟩
noncomputable def spec_l6Line.S3 : List Item := stk (bodyOf Tryz.f49) 3
noncomputable def spec_l6Line.m3 (x0 : List Int) (x4 : Int) (x2_0 : List (List Int)) (x3_0 : List (List Int)) : St := mkS spec_l6Line.c3 [.v (.list (.int .i64)) x0, .v (.int .i64) x4, .v (.list (.list (.int .i64))) x2_0, .v (.list (.list (.int .i64))) x3_0]
noncomputable def spec_l6Line.S6 : List Item := stk (bodyOf Tryz.f49) 6
noncomputable def spec_l6Line.m6 (x0 : List Int) (x4 : Int) (x5 : Int) (x2_0 : List (List Int)) (x3_0 : List (List Int)) : St := mkS spec_l6Line.c6 [.v (.list (.int .i64)) x0, .v (.int .i64) x4, .v (.int .i64) x5, .v (.list (.list (.int .i64))) x2_0, .v (.list (.list (.int .i64))) x3_0]
theorem spec_l6Line.h3 (k : Nat) (R : List Item → St → Option (PD spec_l6Line.rs)) (x0 : List Int) (x4 : Int) (x2_0 : List (List Int)) (x3_0 : List (List Int)) : run (spec_l6Line.E k) R 4000 true spec_l6Line.S3 (spec_l6Line.m3 x0 x4 x2_0 x3_0) = spec_l6Line.B3 k (fun x0 x4 x2_0 x3_0 => R spec_l6Line.S3 (spec_l6Line.m3 x0 x4 x2_0 x3_0)) (fun x0 x4 x5 x2_0 x3_0 => R spec_l6Line.S6 (spec_l6Line.m6 x0 x4 x5 x2_0 x3_0)) x0 x4 x2_0 x3_0 := by kernel_rfl
theorem spec_l6Line.h6 (k : Nat) (R : List Item → St → Option (PD spec_l6Line.rs)) (x0 : List Int) (x4 : Int) (x5 : Int) (x2_0 : List (List Int)) (x3_0 : List (List Int)) : run (spec_l6Line.E k) R 4000 true spec_l6Line.S6 (spec_l6Line.m6 x0 x4 x5 x2_0 x3_0) = spec_l6Line.B6 k (fun x0 x4 x2_0 x3_0 => R spec_l6Line.S3 (spec_l6Line.m3 x0 x4 x2_0 x3_0)) (fun x0 x4 x5 x2_0 x3_0 => R spec_l6Line.S6 (spec_l6Line.m6 x0 x4 x5 x2_0 x3_0)) x0 x4 x5 x2_0 x3_0 := by kernel_rfl
theorem spec_l6Line.h (k : Nat) (R : List Item → St → Option (PD spec_l6Line.rs)) (a0 : List Int) : run (spec_l6Line.E k) R 4000 true [.code (bodyOf Tryz.f49)] (stA (spec_l6Line.E k) [.v (.list (.int .i64)) a0]) = spec_l6Line.B k (fun x0 x4 x2_0 x3_0 => R spec_l6Line.S3 (spec_l6Line.m3 x0 x4 x2_0 x3_0)) (fun x0 x4 x5 x2_0 x3_0 => R spec_l6Line.S6 (spec_l6Line.m6 x0 x4 x5 x2_0 x3_0)) a0 := by kernel_rfl
theorem spec_l6Line.eok (k : Nat) : EOk Tryz.prog (spec_l6Line.E k) Tryz.f49 :=
  ⟨Tryz.func49, Tryz.ntmps49, by kernel_rfl, tab_ok, mixed, cuts_of (by kernel_rfl), Tab.ok (.cons (spec_l6Uniform.ok k) (by kernel_rfl) (.cons (spec_l1Most.ok) (by kernel_rfl) .nil)), by kernel_rfl⟩
theorem spec_l6Line.ff (k : Nat) : ∀ n : Nat, ((fun x0 x4 x2_0 x3_0 => FF (spec_l6Line.E k) n spec_l6Line.S3 (spec_l6Line.m3 x0 x4 x2_0 x3_0)), (fun x0 x4 x5 x2_0 x3_0 => FF (spec_l6Line.E k) n spec_l6Line.S6 (spec_l6Line.m6 x0 x4 x5 x2_0 x3_0))) = spec_l6Line.bs k n
  | 0 => rfl
  | n + 1 => by
    show ((fun x0 x4 x2_0 x3_0 => FF (spec_l6Line.E k) (n + 1) spec_l6Line.S3 (spec_l6Line.m3 x0 x4 x2_0 x3_0)), (fun x0 x4 x5 x2_0 x3_0 => FF (spec_l6Line.E k) (n + 1) spec_l6Line.S6 (spec_l6Line.m6 x0 x4 x5 x2_0 x3_0))) = (spec_l6Line.B3 k ((spec_l6Line.bs k n).1) ((spec_l6Line.bs k n).2), spec_l6Line.B6 k ((spec_l6Line.bs k n).1) ((spec_l6Line.bs k n).2))
    rw [← spec_l6Line.ff k n]
    exact (Prod.ext (funext fun x0 => funext fun x4 => funext fun x2_0 => funext fun x3_0 => by dsimp only; exact (FF_succ ..).trans (spec_l6Line.h3 k (fun t s => FF (spec_l6Line.E k) n t s) x0 x4 x2_0 x3_0)) (funext fun x0 => funext fun x4 => funext fun x5 => funext fun x2_0 => funext fun x3_0 => by dsimp only; exact (FF_succ ..).trans (spec_l6Line.h6 k (fun t s => FF (spec_l6Line.E k) n t s) x0 x4 x5 x2_0 x3_0)))
theorem spec_l6Line.run (k : Nat) (a0 : List Int): FF (spec_l6Line.E k) (k + 1) [.code (bodyOf Tryz.f49)] (stA (spec_l6Line.E k) [.v (.list (.int .i64)) a0]) = spec_l6Line.f k a0 :=
  (FF_succ ..).trans ((spec_l6Line.h k (fun t s => FF (spec_l6Line.E k) k t s) a0).trans (by
    show _ = spec_l6Line.B k ((spec_l6Line.bs k k).1) ((spec_l6Line.bs k k).2) a0
    rw [← spec_l6Line.ff k k]))
theorem spec_l6Line.ok (k : Nat) : FnOK Tryz.prog spec_l6Line.ent spec_l6Line.ts spec_l6Line.rs fun a => spec_l6Line.f k a :=
  ⟨hasBody_of Tryz.func49 (by kernel_rfl), by kernel_rfl, by kernel_rfl, fun a r hr => good_of (E := (spec_l6Line.E k)) (k := (k + 1)) (xs := encL spec_l6Line.ts a) (spec_l6Line.eok k) (body := (bodyOf Tryz.f49)) (by kernel_rfl) (by kernel_rfl) ((spec_l6Line.run k a).trans hr)⟩

def spec_l1Least.B (a0 : Int) (a1 : Int) : Option (Int) :=
  bif decide (a0 < a1) then some a0 else some a1
def spec_l1Least.f (a0 : Int) (a1 : Int) : Option (Int) := spec_l1Least.B a0 a1
def spec_l1Least.ent : Ent := ⟨93, [.h (.int .i64), .h (.int .i64)], [], .h (.int .i64), [], 8⟩
abbrev spec_l1Least.ts : List Ty := [.int .i64, .int .i64]
abbrev spec_l1Least.rs : List Ty := [.int .i64]
noncomputable def spec_l1Least.E : Env :=
  ⟨tab, 10, spec_l1Least.ent, spec_l1Least.rs, [], ctOf [], [], [.tmp 4]⟩
theorem spec_l1Least.h (R : List Item → St → Option (PD spec_l1Least.rs)) (a0 : Int) (a1 : Int) : run (spec_l1Least.E) R 4000 true [.code (bodyOf Tryz.f93)] (stA (spec_l1Least.E) [.v (.int .i64) a0, .v (.int .i64) a1]) = spec_l1Least.B a0 a1 := by kernel_rfl
theorem spec_l1Least.eok : EOk Tryz.prog (spec_l1Least.E) Tryz.f93 :=
  ⟨Tryz.func93, Tryz.ntmps93, by kernel_rfl, tab_ok, mixed, cuts_of (by kernel_rfl), Tab.ok .nil, by kernel_rfl⟩
theorem spec_l1Least.run (a0 : Int) (a1 : Int): FF (spec_l1Least.E) 1 [.code (bodyOf Tryz.f93)] (stA (spec_l1Least.E) [.v (.int .i64) a0, .v (.int .i64) a1]) = spec_l1Least.f a0 a1 :=
  (FF_succ ..).trans (spec_l1Least.h (fun t s => FF (spec_l1Least.E) 0 t s) a0 a1)
theorem spec_l1Least.ok : FnOK Tryz.prog spec_l1Least.ent spec_l1Least.ts spec_l1Least.rs fun a => spec_l1Least.f a.1 a.2 :=
  ⟨hasBody_of Tryz.func93 (by kernel_rfl), by kernel_rfl, by kernel_rfl, fun a r hr => good_of (E := (spec_l1Least.E)) (k := 1) (xs := encL spec_l1Least.ts a) (spec_l1Least.eok) (body := (bodyOf Tryz.f93)) (by kernel_rfl) (by kernel_rfl) ((spec_l1Least.run a.1 a.2).trans hr)⟩

def spec_l8Least.B3 (k : Nat) (r3 : List Int → Int → Int → Option (Int)) (x0 : List Int) (x3 : Int) (x4 : Int) : Option (Int) :=
  bif decide (x4 < (x0.length : Int)) then (if (0 : Int) ≤ x4 ∧ x4 < (x0.length : Int) then ((spec_l1Least.f x3 (x0.getD x4.toNat 0)).bind fun t1 => (r3 x0 t1 (w64 (x4 + 1)))) else none) else some x3
def spec_l8Least.B (k : Nat) (r3 : List Int → Int → Int → Option (Int)) (a0 : List Int) : Option (Int) :=
  if (0 : Int) ≤ 0 ∧ (0 : Int) < (a0.length : Int) then (r3 a0 (a0.getD 0 0) 1) else none
def spec_l8Least.bs (k : Nat) : Nat → (List Int → Int → Int → Option (Int))
  | 0 => (fun _ _ _ => none)
  | n + 1 => (spec_l8Least.B3 k ((spec_l8Least.bs k n)))
def spec_l8Least.f (k : Nat) (a0 : List Int) : Option (Int) := spec_l8Least.B k ((spec_l8Least.bs k k)) a0
def spec_l8Least.ent : Ent := ⟨50, [.h (.list (.int .i64))], [], .h (.int .i64), [], 9⟩
abbrev spec_l8Least.ts : List Ty := [.list (.int .i64)]
abbrev spec_l8Least.rs : List Ty := [.int .i64]
def spec_l8Least.c3 : Cut := ⟨3, [(0, .h (.list (.int .i64))), (3, .h (.int .i64)), (4, .h (.int .i64))], []⟩
noncomputable def spec_l8Least.E (k : Nat) : Env :=
  ⟨tab, 21, spec_l8Least.ent, spec_l8Least.rs, [spec_l1Least.ent], ctOf [(8, mkF spec_l1Least.ts spec_l1Least.rs fun a => spec_l1Least.f a.1 a.2)], [spec_l8Least.c3], [.tmp 2]⟩
noncomputable def spec_l8Least.S3 : List Item := stk (bodyOf Tryz.f50) 3
noncomputable def spec_l8Least.m3 (x0 : List Int) (x3 : Int) (x4 : Int) : St := mkS spec_l8Least.c3 [.v (.list (.int .i64)) x0, .v (.int .i64) x3, .v (.int .i64) x4]
theorem spec_l8Least.h3 (k : Nat) (R : List Item → St → Option (PD spec_l8Least.rs)) (x0 : List Int) (x3 : Int) (x4 : Int) : run (spec_l8Least.E k) R 4000 true spec_l8Least.S3 (spec_l8Least.m3 x0 x3 x4) = spec_l8Least.B3 k (fun x0 x3 x4 => R spec_l8Least.S3 (spec_l8Least.m3 x0 x3 x4)) x0 x3 x4 := by kernel_rfl
theorem spec_l8Least.h (k : Nat) (R : List Item → St → Option (PD spec_l8Least.rs)) (a0 : List Int) : run (spec_l8Least.E k) R 4000 true [.code (bodyOf Tryz.f50)] (stA (spec_l8Least.E k) [.v (.list (.int .i64)) a0]) = spec_l8Least.B k (fun x0 x3 x4 => R spec_l8Least.S3 (spec_l8Least.m3 x0 x3 x4)) a0 := by kernel_rfl
theorem spec_l8Least.eok (k : Nat) : EOk Tryz.prog (spec_l8Least.E k) Tryz.f50 :=
  ⟨Tryz.func50, Tryz.ntmps50, by kernel_rfl, tab_ok, mixed, cuts_of (by kernel_rfl), Tab.ok (.cons (spec_l1Least.ok) (by kernel_rfl) .nil), by kernel_rfl⟩
theorem spec_l8Least.ff (k : Nat) : ∀ n : Nat, (fun x0 x3 x4 => FF (spec_l8Least.E k) n spec_l8Least.S3 (spec_l8Least.m3 x0 x3 x4)) = spec_l8Least.bs k n
  | 0 => rfl
  | n + 1 => by
    show (fun x0 x3 x4 => FF (spec_l8Least.E k) (n + 1) spec_l8Least.S3 (spec_l8Least.m3 x0 x3 x4)) = (spec_l8Least.B3 k ((spec_l8Least.bs k n)))
    rw [← spec_l8Least.ff k n]
    exact (funext fun x0 => funext fun x3 => funext fun x4 => (FF_succ ..).trans (spec_l8Least.h3 k (fun t s => FF (spec_l8Least.E k) n t s) x0 x3 x4))
theorem spec_l8Least.run (k : Nat) (a0 : List Int): FF (spec_l8Least.E k) (k + 1) [.code (bodyOf Tryz.f50)] (stA (spec_l8Least.E k) [.v (.list (.int .i64)) a0]) = spec_l8Least.f k a0 :=
  (FF_succ ..).trans ((spec_l8Least.h k (fun t s => FF (spec_l8Least.E k) k t s) a0).trans (by
    show _ = spec_l8Least.B k ((spec_l8Least.bs k k)) a0
    rw [← spec_l8Least.ff k k]))
theorem spec_l8Least.ok (k : Nat) : FnOK Tryz.prog spec_l8Least.ent spec_l8Least.ts spec_l8Least.rs fun a => spec_l8Least.f k a :=
  ⟨hasBody_of Tryz.func50 (by kernel_rfl), by kernel_rfl, by kernel_rfl, fun a r hr => good_of (E := (spec_l8Least.E k)) (k := (k + 1)) (xs := encL spec_l8Least.ts a) (spec_l8Least.eok k) (body := (bodyOf Tryz.f50)) (by kernel_rfl) (by kernel_rfl) ((spec_l8Least.run k a).trans hr)⟩

def spec_l1In.B (a0 : Int) (a1 : Int) (a2 : Int) : Option (Bool) :=
  bif decide (a1 ≤ a0) then some (decide (a0 ≤ a2)) else some false
def spec_l1In.f (a0 : Int) (a1 : Int) (a2 : Int) : Option (Bool) := spec_l1In.B a0 a1 a2
def spec_l1In.ent : Ent := ⟨67, [.h (.int .i64), .h (.int .i64), .h (.int .i64)], [], .h (.bool), [], 10⟩
abbrev spec_l1In.ts : List Ty := [.int .i64, .int .i64, .int .i64]
abbrev spec_l1In.rs : List Ty := [.bool]
noncomputable def spec_l1In.E : Env :=
  ⟨tab, 15, spec_l1In.ent, spec_l1In.rs, [], ctOf [], [], [.tmp 6]⟩
theorem spec_l1In.h (R : List Item → St → Option (PD spec_l1In.rs)) (a0 : Int) (a1 : Int) (a2 : Int) : run (spec_l1In.E) R 4000 true [.code (bodyOf Tryz.f67)] (stA (spec_l1In.E) [.v (.int .i64) a0, .v (.int .i64) a1, .v (.int .i64) a2]) = spec_l1In.B a0 a1 a2 := by kernel_rfl
theorem spec_l1In.eok : EOk Tryz.prog (spec_l1In.E) Tryz.f67 :=
  ⟨Tryz.func67, Tryz.ntmps67, by kernel_rfl, tab_ok, mixed, cuts_of (by kernel_rfl), Tab.ok .nil, by kernel_rfl⟩
theorem spec_l1In.run (a0 : Int) (a1 : Int) (a2 : Int): FF (spec_l1In.E) 1 [.code (bodyOf Tryz.f67)] (stA (spec_l1In.E) [.v (.int .i64) a0, .v (.int .i64) a1, .v (.int .i64) a2]) = spec_l1In.f a0 a1 a2 :=
  (FF_succ ..).trans (spec_l1In.h (fun t s => FF (spec_l1In.E) 0 t s) a0 a1 a2)
theorem spec_l1In.ok : FnOK Tryz.prog spec_l1In.ent spec_l1In.ts spec_l1In.rs fun a => spec_l1In.f a.1 a.2.1 a.2.2 :=
  ⟨hasBody_of Tryz.func67 (by kernel_rfl), by kernel_rfl, by kernel_rfl, fun a r hr => good_of (E := (spec_l1In.E)) (k := 1) (xs := encL spec_l1In.ts a) (spec_l1In.eok) (body := (bodyOf Tryz.f67)) (by kernel_rfl) (by kernel_rfl) ((spec_l1In.run a.1 a.2.1 a.2.2).trans hr)⟩

def spec_l8Request.B3 (k : Nat) (r3 : Int → List Int → Bool → Int → Option (Bool)) (x0 : Int) (x1 : List Int) (x5 : Bool) (x6 : Int) : Option (Bool) :=
  bif decide (x6 < (x1.length : Int)) then (if (0 : Int) ≤ x6 ∧ x6 < (x1.length : Int) then ((spec_l1In.f (x1.getD x6.toNat 0) (-1) 20).bind fun t1 => (bif !t1 then some false else (bif x5 then (r3 x0 x1 true (w64 (x6 + 1))) else (if (0 : Int) ≤ x6 ∧ x6 < (x1.length : Int) then (r3 x0 x1 (decide ((0 : Int) ≤ x1.getD x6.toNat 0)) (w64 (x6 + 1))) else none)))) else none) else (bif decide ((x1.length : Int) = x0) then some x5 else some false)
def spec_l8Request.B (k : Nat) (r3 : Int → List Int → Bool → Int → Option (Bool)) (a0 : Int) (a1 : List Int) : Option (Bool) :=
  r3 a0 a1 false 0
def spec_l8Request.bs (k : Nat) : Nat → (Int → List Int → Bool → Int → Option (Bool))
  | 0 => (fun _ _ _ _ => none)
  | n + 1 => (spec_l8Request.B3 k ((spec_l8Request.bs k n)))
def spec_l8Request.f (k : Nat) (a0 : Int) (a1 : List Int) : Option (Bool) := spec_l8Request.B k ((spec_l8Request.bs k k)) a0 a1
def spec_l8Request.ent : Ent := ⟨51, [.h (.int .i64), .h (.list (.int .i64))], [], .h (.bool), [], 11⟩
abbrev spec_l8Request.ts : List Ty := [.int .i64, .list (.int .i64)]
abbrev spec_l8Request.rs : List Ty := [.bool]
def spec_l8Request.c3 : Cut := ⟨3, [(0, .h (.int .i64)), (1, .h (.list (.int .i64))), (5, .h (.bool)), (6, .h (.int .i64))], []⟩
noncomputable def spec_l8Request.E (k : Nat) : Env :=
  ⟨tab, 34, spec_l8Request.ent, spec_l8Request.rs, [spec_l1In.ent], ctOf [(10, mkF spec_l1In.ts spec_l1In.rs fun a => spec_l1In.f a.1 a.2.1 a.2.2)], [spec_l8Request.c3], [.tmp 4]⟩
noncomputable def spec_l8Request.S3 : List Item := stk (bodyOf Tryz.f51) 3
noncomputable def spec_l8Request.m3 (x0 : Int) (x1 : List Int) (x5 : Bool) (x6 : Int) : St := mkS spec_l8Request.c3 [.v (.int .i64) x0, .v (.list (.int .i64)) x1, .v (.bool) x5, .v (.int .i64) x6]
theorem spec_l8Request.h3 (k : Nat) (R : List Item → St → Option (PD spec_l8Request.rs)) (x0 : Int) (x1 : List Int) (x5 : Bool) (x6 : Int) : run (spec_l8Request.E k) R 4000 true spec_l8Request.S3 (spec_l8Request.m3 x0 x1 x5 x6) = spec_l8Request.B3 k (fun x0 x1 x5 x6 => R spec_l8Request.S3 (spec_l8Request.m3 x0 x1 x5 x6)) x0 x1 x5 x6 := by kernel_rfl
theorem spec_l8Request.h (k : Nat) (R : List Item → St → Option (PD spec_l8Request.rs)) (a0 : Int) (a1 : List Int) : run (spec_l8Request.E k) R 4000 true [.code (bodyOf Tryz.f51)] (stA (spec_l8Request.E k) [.v (.int .i64) a0, .v (.list (.int .i64)) a1]) = spec_l8Request.B k (fun x0 x1 x5 x6 => R spec_l8Request.S3 (spec_l8Request.m3 x0 x1 x5 x6)) a0 a1 := by kernel_rfl
theorem spec_l8Request.eok (k : Nat) : EOk Tryz.prog (spec_l8Request.E k) Tryz.f51 :=
  ⟨Tryz.func51, Tryz.ntmps51, by kernel_rfl, tab_ok, mixed, cuts_of (by kernel_rfl), Tab.ok (.cons (spec_l1In.ok) (by kernel_rfl) .nil), by kernel_rfl⟩
theorem spec_l8Request.ff (k : Nat) : ∀ n : Nat, (fun x0 x1 x5 x6 => FF (spec_l8Request.E k) n spec_l8Request.S3 (spec_l8Request.m3 x0 x1 x5 x6)) = spec_l8Request.bs k n
  | 0 => rfl
  | n + 1 => by
    show (fun x0 x1 x5 x6 => FF (spec_l8Request.E k) (n + 1) spec_l8Request.S3 (spec_l8Request.m3 x0 x1 x5 x6)) = (spec_l8Request.B3 k ((spec_l8Request.bs k n)))
    rw [← spec_l8Request.ff k n]
    exact (funext fun x0 => funext fun x1 => funext fun x5 => funext fun x6 => (FF_succ ..).trans (spec_l8Request.h3 k (fun t s => FF (spec_l8Request.E k) n t s) x0 x1 x5 x6))
theorem spec_l8Request.run (k : Nat) (a0 : Int) (a1 : List Int): FF (spec_l8Request.E k) (k + 1) [.code (bodyOf Tryz.f51)] (stA (spec_l8Request.E k) [.v (.int .i64) a0, .v (.list (.int .i64)) a1]) = spec_l8Request.f k a0 a1 :=
  (FF_succ ..).trans ((spec_l8Request.h k (fun t s => FF (spec_l8Request.E k) k t s) a0 a1).trans (by
    show _ = spec_l8Request.B k ((spec_l8Request.bs k k)) a0 a1
    rw [← spec_l8Request.ff k k]))
theorem spec_l8Request.ok (k : Nat) : FnOK Tryz.prog spec_l8Request.ent spec_l8Request.ts spec_l8Request.rs fun a => spec_l8Request.f k a.1 a.2 :=
  ⟨hasBody_of Tryz.func51 (by kernel_rfl), by kernel_rfl, by kernel_rfl, fun a r hr => good_of (E := (spec_l8Request.E k)) (k := (k + 1)) (xs := encL spec_l8Request.ts a) (spec_l8Request.eok k) (body := (bodyOf Tryz.f51)) (by kernel_rfl) (by kernel_rfl) ((spec_l8Request.run k a.1 a.2).trans hr)⟩

def spec_l1Cur_problem.B7 (k : Nat) (r7 : Int → Int → List Int → Int → Int → List (List Int) → List (List Int) → List (List Int) → List (List Int) → Option (List (List Int) × List Int × Int × Int × List (List Int))) (r11 : Int → Int → Int → List Int → Int → Int → List (List Int) → List (List Int) → List (List Int) → List (List Int) → List Int → Option (List (List Int) × List Int × Int × Int × List (List Int))) (r25 : Int → Int → Int → List Int → Int → Int → List (List Int) → List (List Int) → List (List Int) → List (List Int) → Option (List (List Int) × List Int × Int × Int × List (List Int))) (x3 : Int) (x6 : Int) (x0_0 : List Int) (x0_1 : Int) (x0_2 : Int) (x2_0 : List (List Int)) (x2_1 : List (List Int)) (x5_0 : List (List Int)) (x5_1 : List (List Int)) : Option (List (List Int) × List Int × Int × Int × List (List Int)) :=
  bif decide ((0 : Int) < x6) then (r11 x3 x6 0 x0_0 x0_1 x0_2 x2_0 x2_1 x5_0 x5_1 []) else ((spec_l1Cur_pick.f (x5_1.length : Int) x0_0 x0_1 x0_2).bind fun t11 => ((spec_l1Cur_pick.f 32 t11.2.1 t11.2.2.1 t11.2.2.2).bind fun t12 => (bif decide (t12.1 = (0 : Int)) then (if (0 : Int) ≤ t11.1 ∧ t11.1 < (x5_1.length : Int) then ((spec_l1Cur_among.f [(-2), 20, 21] t12.2.1 t12.2.2.1 t12.2.2.2).bind fun t13 => (if (0 : Int) ≤ 0 ∧ (0 : Int) < ((x5_1.getD t11.1.toNat []).length : Int) then some (x5_1.set t11.1.toNat ((x5_1.getD t11.1.toNat []).set 0 t13.1), t13.2.1, t13.2.2.1, t13.2.2.2, x5_0) else none)) else none) else (bif decide (t12.1 = (1 : Int)) then (if (0 : Int) ≤ t11.1 ∧ t11.1 < (x5_1.length : Int) then (if (x5_1.getD t11.1.toNat []).length + 1 ≤ capB then (if (0 : Int) ≤ t11.1 ∧ t11.1 < (x5_1.length : Int) then (if t11.1.toNat = t11.1.toNat then some (x5_1.set t11.1.toNat ((x5_1.getD t11.1.toNat []) ++ [0]), t12.2.1, t12.2.2.1, t12.2.2.2, x5_0) else none) else none) else none) else none) else (bif decide (t12.1 = (2 : Int)) then (r25 x3 t11.1 0 t12.2.1 t12.2.2.1 t12.2.2.2 x2_0 x2_1 x5_0 x5_1) else (bif decide (t12.1 = (3 : Int)) then (if (0 : Int) ≤ 0 ∧ (0 : Int) < (x5_0.length : Int) then ((spec_l1Cur_among.f [0, 99, (-1)] t12.2.1 t12.2.2.1 t12.2.2.2).bind fun t14 => (if (0 : Int) ≤ w64 (x3 - 1) ∧ w64 (x3 - 1) < ((x5_0.getD 0 []).length : Int) then some (x5_1, t14.2.1, t14.2.2.1, t14.2.2.2, x5_0.set 0 ((x5_0.getD 0 []).set ((w64 (x3 - 1)).toNat) t14.1)) else none)) else none) else (bif decide (t12.1 = (4 : Int)) then (if x5_1.length + x5_1.length ≤ capB then (if (x5_1 ++ x5_1).length + x5_1.length ≤ capB then (if ((x5_1 ++ x5_1) ++ x5_1).length + x5_1.length ≤ capB then some (((x5_1 ++ x5_1) ++ x5_1) ++ x5_1, t12.2.1, t12.2.2.1, t12.2.2.2, x5_0) else none) else none) else none) else (bif decide (t12.1 = (5 : Int)) then ((spec_l6Uniform.f k 5 1).bind fun t15 => some (x5_1, t12.2.1, t12.2.2.1, t12.2.2.2, t15)) else some (x5_1, t12.2.1, t12.2.2.1, t12.2.2.2, x5_0)))))))))
def spec_l1Cur_problem.B11 (k : Nat) (r7 : Int → Int → List Int → Int → Int → List (List Int) → List (List Int) → List (List Int) → List (List Int) → Option (List (List Int) × List Int × Int × Int × List (List Int))) (r11 : Int → Int → Int → List Int → Int → Int → List (List Int) → List (List Int) → List (List Int) → List (List Int) → List Int → Option (List (List Int) × List Int × Int × Int × List (List Int))) (r25 : Int → Int → Int → List Int → Int → Int → List (List Int) → List (List Int) → List (List Int) → List (List Int) → Option (List (List Int) × List Int × Int × Int × List (List Int))) (x3 : Int) (x6 : Int) (x8 : Int) (x0_0 : List Int) (x0_1 : Int) (x0_2 : Int) (x2_0 : List (List Int)) (x2_1 : List (List Int)) (x5_0 : List (List Int)) (x5_1 : List (List Int)) (x7 : List Int) : Option (List (List Int) × List Int × Int × Int × List (List Int)) :=
  bif decide (x8 < x3) then ((spec_l1Cur_among.f [0, 0, 1, 2, 3, (-1), 5] x0_0 x0_1 x0_2).bind fun t16 => (if x7.length + 1 ≤ capB then (r11 x3 x6 (w64 (x8 + 1)) t16.2.1 t16.2.2.1 t16.2.2.2 x2_0 x2_1 x5_0 x5_1 (x7 ++ [t16.1])) else none)) else ((spec_l8Least.f k x7).bind fun t17 => (bif decide (t17 < (0 : Int)) then ((spec_l1Cur_one.f 3 x0_0 x0_1 x0_2).bind fun t18 => (bif t18.1 then ((spec_l1Cur_pick.f x3 t18.2.1 t18.2.2.1 t18.2.2.2).bind fun t19 => (if (0 : Int) ≤ t19.1 ∧ t19.1 < (x7.length : Int) then (if x5_1.length + 1 ≤ capB then (r7 x3 (w64 (x6 - 1)) t19.2.1 t19.2.2.1 t19.2.2.2 x2_0 x2_1 x5_0 (x5_1 ++ [x7.set t19.1.toNat 0])) else none) else none)) else ((spec_l8Request.f k x3 x7).bind fun t20 => (bif !t20 then ((spec_l1Cur_pick.f x3 t18.2.1 t18.2.2.1 t18.2.2.2).bind fun t21 => (if (0 : Int) ≤ t21.1 ∧ t21.1 < (x7.length : Int) then (if x5_1.length + 1 ≤ capB then (r7 x3 (w64 (x6 - 1)) t21.2.1 t21.2.2.1 t21.2.2.2 x2_0 x2_1 x5_0 (x5_1 ++ [x7.set t21.1.toNat 0])) else none) else none)) else (if x5_1.length + 1 ≤ capB then (r7 x3 (w64 (x6 - 1)) t18.2.1 t18.2.2.1 t18.2.2.2 x2_0 x2_1 x5_0 (x5_1 ++ [x7])) else none))))) else ((spec_l8Request.f k x3 x7).bind fun t22 => (bif !t22 then ((spec_l1Cur_pick.f x3 x0_0 x0_1 x0_2).bind fun t23 => (if (0 : Int) ≤ t23.1 ∧ t23.1 < (x7.length : Int) then (if x5_1.length + 1 ≤ capB then (r7 x3 (w64 (x6 - 1)) t23.2.1 t23.2.2.1 t23.2.2.2 x2_0 x2_1 x5_0 (x5_1 ++ [x7.set t23.1.toNat 0])) else none) else none)) else (if x5_1.length + 1 ≤ capB then (r7 x3 (w64 (x6 - 1)) x0_0 x0_1 x0_2 x2_0 x2_1 x5_0 (x5_1 ++ [x7])) else none)))))
def spec_l1Cur_problem.B25 (k : Nat) (r7 : Int → Int → List Int → Int → Int → List (List Int) → List (List Int) → List (List Int) → List (List Int) → Option (List (List Int) × List Int × Int × Int × List (List Int))) (r11 : Int → Int → Int → List Int → Int → Int → List (List Int) → List (List Int) → List (List Int) → List (List Int) → List Int → Option (List (List Int) × List Int × Int × Int × List (List Int))) (r25 : Int → Int → Int → List Int → Int → Int → List (List Int) → List (List Int) → List (List Int) → List (List Int) → Option (List (List Int) × List Int × Int × Int × List (List Int))) (x3 : Int) (x9 : Int) (x10 : Int) (o0_0 : List Int) (o0_1 : Int) (o0_2 : Int) (x2_0 : List (List Int)) (x2_1 : List (List Int)) (x5_0 : List (List Int)) (x5_1 : List (List Int)) : Option (List (List Int) × List Int × Int × Int × List (List Int)) :=
  bif decide (x10 < x3) then (if (0 : Int) ≤ x9 ∧ x9 < (x5_1.length : Int) then (if (0 : Int) ≤ x10 ∧ x10 < ((x5_1.getD x9.toNat []).length : Int) then (r25 x3 x9 (w64 (x10 + 1)) o0_0 o0_1 o0_2 x2_0 x2_1 x5_0 (x5_1.set x9.toNat ((x5_1.getD x9.toNat []).set x10.toNat (-1)))) else none) else none) else some (x5_1, o0_0, o0_1, o0_2, x5_0)
def spec_l1Cur_problem.B (k : Nat) (r7 : Int → Int → List Int → Int → Int → List (List Int) → List (List Int) → List (List Int) → List (List Int) → Option (List (List Int) × List Int × Int × Int × List (List Int))) (r11 : Int → Int → Int → List Int → Int → Int → List (List Int) → List (List Int) → List (List Int) → List (List Int) → List Int → Option (List (List Int) × List Int × Int × Int × List (List Int))) (r25 : Int → Int → Int → List Int → Int → Int → List (List Int) → List (List Int) → List (List Int) → List (List Int) → Option (List (List Int) × List Int × Int × Int × List (List Int))) (a0 : List Int) (a1 : Int) (a2 : Int) : Option (List (List Int) × List Int × Int × Int × List (List Int)) :=
  (spec_l1Cur_among.f [1, 2, 2, 3, 3, 4] a0 a1 a2).bind fun t1 => ((spec_l1Cur_pick.f 4 t1.2.1 t1.2.2.1 t1.2.2.2).bind fun t2 => ((spec_l6Uniform.f k t1.1 (w64 (1 + t2.1))).bind fun t3 => ((spec_l1Cur_one.f 2 t2.2.1 t2.2.2.1 t2.2.2.2).bind fun t4 => (bif t4.1 then ((spec_l1Cur_pick.f 2 t4.2.1 t4.2.2.1 t4.2.2.2).bind fun t5 => ((spec_l1Cur_pick.f 2 t5.2.1 t5.2.2.1 t5.2.2.2).bind fun t6 => ((spec_l1Cur_pick.f 3 t6.2.1 t6.2.2.1 t6.2.2.2).bind fun t7 => (if (0 : Int) ≤ 0 ∧ (0 : Int) ≤ t1.1 ∧ t1.1 ≤ (([t5.1, w64 (2 + t6.1), 5, w64 (6 + t7.1)]).length : Int) then ((spec_l6Line.f k (List.take ((t1.1 - 0).toNat) (List.drop 0 [t5.1, w64 (2 + t6.1), 5, w64 (6 + t7.1)]))).bind fun t8 => ((spec_l1Cur_among.f [1, 2, 2, 3, 4] t7.2.1 t7.2.2.1 t7.2.2.2).bind fun t9 => (r7 t1.1 t9.1 t9.2.1 t9.2.2.1 t9.2.2.2 [] [] t8 []))) else none)))) else ((spec_l1Cur_among.f [1, 2, 2, 3, 4] t4.2.1 t4.2.2.1 t4.2.2.2).bind fun t10 => (r7 t1.1 t10.1 t10.2.1 t10.2.2.1 t10.2.2.2 [] [] t3 []))))))
def spec_l1Cur_problem.bs (k : Nat) : Nat → (Int → Int → List Int → Int → Int → List (List Int) → List (List Int) → List (List Int) → List (List Int) → Option (List (List Int) × List Int × Int × Int × List (List Int))) × (Int → Int → Int → List Int → Int → Int → List (List Int) → List (List Int) → List (List Int) → List (List Int) → List Int → Option (List (List Int) × List Int × Int × Int × List (List Int))) × (Int → Int → Int → List Int → Int → Int → List (List Int) → List (List Int) → List (List Int) → List (List Int) → Option (List (List Int) × List Int × Int × Int × List (List Int)))
  | 0 => (fun _ _ _ _ _ _ _ _ _ => none, fun _ _ _ _ _ _ _ _ _ _ _ => none, fun _ _ _ _ _ _ _ _ _ _ => none)
  | n + 1 => (spec_l1Cur_problem.B7 k ((spec_l1Cur_problem.bs k n).1) ((spec_l1Cur_problem.bs k n).2.1) ((spec_l1Cur_problem.bs k n).2.2), spec_l1Cur_problem.B11 k ((spec_l1Cur_problem.bs k n).1) ((spec_l1Cur_problem.bs k n).2.1) ((spec_l1Cur_problem.bs k n).2.2), spec_l1Cur_problem.B25 k ((spec_l1Cur_problem.bs k n).1) ((spec_l1Cur_problem.bs k n).2.1) ((spec_l1Cur_problem.bs k n).2.2))
def spec_l1Cur_problem.f (k : Nat) (a0 : List Int) (a1 : Int) (a2 : Int) : Option (List (List Int) × List Int × Int × Int × List (List Int)) := spec_l1Cur_problem.B k ((spec_l1Cur_problem.bs k k).1) ((spec_l1Cur_problem.bs k k).2.1) ((spec_l1Cur_problem.bs k k).2.2) a0 a1 a2
def spec_l1Cur_problem.ent : Ent := ⟨18, [.p 0], [.box [.h (.list (.int .u8)), .h (.int .i64), .h (.int .u64)]], .agg [.ownm 1 (.int .i64), .h (.list (.list (.int .i64)))], [.box [.h (.list (.int .u8)), .h (.int .i64), .h (.int .u64)], .mat (.int .i64)], 12⟩
abbrev spec_l1Cur_problem.ts : List Ty := [.list (.int .u8), .int .i64, .int .u64]
abbrev spec_l1Cur_problem.rs : List Ty := [.list (.list (.int .i64)), .list (.int .u8), .int .i64, .int .u64, .list (.list (.int .i64))]
def spec_l1Cur_problem.c7 : Cut := ⟨7, [(0, .p 0), (2, .p 1), (3, .h (.int .i64)), (5, .p 4), (6, .h (.int .i64))], [.box [.h (.list (.int .u8)), .h (.int .i64), .h (.int .u64)], .box [.ownm 2 (.int .i64), .ownm 3 (.int .i64)], .mat (.int .i64), .mat (.int .i64), .box [.ownm 5 (.int .i64), .ownm 6 (.int .i64)], .mat (.int .i64), .mat (.int .i64)]⟩
def spec_l1Cur_problem.c11 : Cut := ⟨11, [(0, .p 0), (2, .p 1), (3, .h (.int .i64)), (5, .p 4), (6, .h (.int .i64)), (7, .own 7 (.int .i64)), (8, .h (.int .i64))], [.box [.h (.list (.int .u8)), .h (.int .i64), .h (.int .u64)], .box [.ownm 2 (.int .i64), .ownm 3 (.int .i64)], .mat (.int .i64), .mat (.int .i64), .box [.ownm 5 (.int .i64), .ownm 6 (.int .i64)], .mat (.int .i64), .mat (.int .i64), .buf (.int .i64)]⟩
def spec_l1Cur_problem.c25 : Cut := ⟨25, [(2, .p 1), (3, .h (.int .i64)), (5, .p 4), (9, .h (.int .i64)), (10, .h (.int .i64))], [.box [.h (.list (.int .u8)), .h (.int .i64), .h (.int .u64)], .box [.ownm 2 (.int .i64), .ownm 3 (.int .i64)], .mat (.int .i64), .mat (.int .i64), .box [.ownm 5 (.int .i64), .ownm 6 (.int .i64)], .mat (.int .i64), .mat (.int .i64)]⟩
noncomputable def spec_l1Cur_problem.E (k : Nat) : Env :=
  ⟨tab, 156, spec_l1Cur_problem.ent, spec_l1Cur_problem.rs, [spec_l1Cur_among.ent, spec_l1Cur_pick.ent, spec_l6Uniform.ent, spec_l1Cur_one.ent, spec_l6Line.ent, spec_l8Least.ent, spec_l8Request.ent], ctOf [(3, mkF spec_l1Cur_among.ts spec_l1Cur_among.rs fun a => spec_l1Cur_among.f a.1 a.2.1 a.2.2.1 a.2.2.2),
    (2, mkF spec_l1Cur_pick.ts spec_l1Cur_pick.rs fun a => spec_l1Cur_pick.f a.1 a.2.1 a.2.2.1 a.2.2.2),
    (4, mkF spec_l6Uniform.ts spec_l6Uniform.rs fun a => spec_l6Uniform.f k a.1 a.2),
    (5, mkF spec_l1Cur_one.ts spec_l1Cur_one.rs fun a => spec_l1Cur_one.f a.1 a.2.1 a.2.2.1 a.2.2.2),
    (7, mkF spec_l6Line.ts spec_l6Line.rs fun a => spec_l6Line.f k a),
    (9, mkF spec_l8Least.ts spec_l8Least.rs fun a => spec_l8Least.f k a),
    (11, mkF spec_l8Request.ts spec_l8Request.rs fun a => spec_l8Request.f k a.1 a.2)], [spec_l1Cur_problem.c7, spec_l1Cur_problem.c11, spec_l1Cur_problem.c25], [.cell 2 26]⟩
noncomputable def spec_l1Cur_problem.S7 : List Item := stk (bodyOf Tryz.f18) 7
noncomputable def spec_l1Cur_problem.m7 (x3 : Int) (x6 : Int) (x0_0 : List Int) (x0_1 : Int) (x0_2 : Int) (x2_0 : List (List Int)) (x2_1 : List (List Int)) (x5_0 : List (List Int)) (x5_1 : List (List Int)) : St := mkS spec_l1Cur_problem.c7 [.v (.int .i64) x3, .v (.int .i64) x6, .v (.list (.int .u8)) x0_0, .v (.int .i64) x0_1, .v (.int .u64) x0_2, .v (.list (.list (.int .i64))) x2_0, .v (.list (.list (.int .i64))) x2_1, .v (.list (.list (.int .i64))) x5_0, .v (.list (.list (.int .i64))) x5_1]
noncomputable def spec_l1Cur_problem.S11 : List Item := stk (bodyOf Tryz.f18) 11
noncomputable def spec_l1Cur_problem.m11 (x3 : Int) (x6 : Int) (x8 : Int) (x0_0 : List Int) (x0_1 : Int) (x0_2 : Int) (x2_0 : List (List Int)) (x2_1 : List (List Int)) (x5_0 : List (List Int)) (x5_1 : List (List Int)) (x7 : List Int) : St := mkS spec_l1Cur_problem.c11 [.v (.int .i64) x3, .v (.int .i64) x6, .v (.int .i64) x8, .v (.list (.int .u8)) x0_0, .v (.int .i64) x0_1, .v (.int .u64) x0_2, .v (.list (.list (.int .i64))) x2_0, .v (.list (.list (.int .i64))) x2_1, .v (.list (.list (.int .i64))) x5_0, .v (.list (.list (.int .i64))) x5_1, .v (.list (.int .i64)) x7]
noncomputable def spec_l1Cur_problem.S25 : List Item := stk (bodyOf Tryz.f18) 25
noncomputable def spec_l1Cur_problem.m25 (x3 : Int) (x9 : Int) (x10 : Int) (o0_0 : List Int) (o0_1 : Int) (o0_2 : Int) (x2_0 : List (List Int)) (x2_1 : List (List Int)) (x5_0 : List (List Int)) (x5_1 : List (List Int)) : St := mkS spec_l1Cur_problem.c25 [.v (.int .i64) x3, .v (.int .i64) x9, .v (.int .i64) x10, .v (.list (.int .u8)) o0_0, .v (.int .i64) o0_1, .v (.int .u64) o0_2, .v (.list (.list (.int .i64))) x2_0, .v (.list (.list (.int .i64))) x2_1, .v (.list (.list (.int .i64))) x5_0, .v (.list (.list (.int .i64))) x5_1]
theorem spec_l1Cur_problem.h7 (k : Nat) (R : List Item → St → Option (PD spec_l1Cur_problem.rs)) (x3 : Int) (x6 : Int) (x0_0 : List Int) (x0_1 : Int) (x0_2 : Int) (x2_0 : List (List Int)) (x2_1 : List (List Int)) (x5_0 : List (List Int)) (x5_1 : List (List Int)) : run (spec_l1Cur_problem.E k) R 4000 true spec_l1Cur_problem.S7 (spec_l1Cur_problem.m7 x3 x6 x0_0 x0_1 x0_2 x2_0 x2_1 x5_0 x5_1) = spec_l1Cur_problem.B7 k (fun x3 x6 x0_0 x0_1 x0_2 x2_0 x2_1 x5_0 x5_1 => R spec_l1Cur_problem.S7 (spec_l1Cur_problem.m7 x3 x6 x0_0 x0_1 x0_2 x2_0 x2_1 x5_0 x5_1)) (fun x3 x6 x8 x0_0 x0_1 x0_2 x2_0 x2_1 x5_0 x5_1 x7 => R spec_l1Cur_problem.S11 (spec_l1Cur_problem.m11 x3 x6 x8 x0_0 x0_1 x0_2 x2_0 x2_1 x5_0 x5_1 x7)) (fun x3 x9 x10 o0_0 o0_1 o0_2 x2_0 x2_1 x5_0 x5_1 => R spec_l1Cur_problem.S25 (spec_l1Cur_problem.m25 x3 x9 x10 o0_0 o0_1 o0_2 x2_0 x2_1 x5_0 x5_1)) x3 x6 x0_0 x0_1 x0_2 x2_0 x2_1 x5_0 x5_1 := by kernel_rfl
theorem spec_l1Cur_problem.h11 (k : Nat) (R : List Item → St → Option (PD spec_l1Cur_problem.rs)) (x3 : Int) (x6 : Int) (x8 : Int) (x0_0 : List Int) (x0_1 : Int) (x0_2 : Int) (x2_0 : List (List Int)) (x2_1 : List (List Int)) (x5_0 : List (List Int)) (x5_1 : List (List Int)) (x7 : List Int) : run (spec_l1Cur_problem.E k) R 4000 true spec_l1Cur_problem.S11 (spec_l1Cur_problem.m11 x3 x6 x8 x0_0 x0_1 x0_2 x2_0 x2_1 x5_0 x5_1 x7) = spec_l1Cur_problem.B11 k (fun x3 x6 x0_0 x0_1 x0_2 x2_0 x2_1 x5_0 x5_1 => R spec_l1Cur_problem.S7 (spec_l1Cur_problem.m7 x3 x6 x0_0 x0_1 x0_2 x2_0 x2_1 x5_0 x5_1)) (fun x3 x6 x8 x0_0 x0_1 x0_2 x2_0 x2_1 x5_0 x5_1 x7 => R spec_l1Cur_problem.S11 (spec_l1Cur_problem.m11 x3 x6 x8 x0_0 x0_1 x0_2 x2_0 x2_1 x5_0 x5_1 x7)) (fun x3 x9 x10 o0_0 o0_1 o0_2 x2_0 x2_1 x5_0 x5_1 => R spec_l1Cur_problem.S25 (spec_l1Cur_problem.m25 x3 x9 x10 o0_0 o0_1 o0_2 x2_0 x2_1 x5_0 x5_1)) x3 x6 x8 x0_0 x0_1 x0_2 x2_0 x2_1 x5_0 x5_1 x7 := by kernel_rfl
theorem spec_l1Cur_problem.h25 (k : Nat) (R : List Item → St → Option (PD spec_l1Cur_problem.rs)) (x3 : Int) (x9 : Int) (x10 : Int) (o0_0 : List Int) (o0_1 : Int) (o0_2 : Int) (x2_0 : List (List Int)) (x2_1 : List (List Int)) (x5_0 : List (List Int)) (x5_1 : List (List Int)) : run (spec_l1Cur_problem.E k) R 4000 true spec_l1Cur_problem.S25 (spec_l1Cur_problem.m25 x3 x9 x10 o0_0 o0_1 o0_2 x2_0 x2_1 x5_0 x5_1) = spec_l1Cur_problem.B25 k (fun x3 x6 x0_0 x0_1 x0_2 x2_0 x2_1 x5_0 x5_1 => R spec_l1Cur_problem.S7 (spec_l1Cur_problem.m7 x3 x6 x0_0 x0_1 x0_2 x2_0 x2_1 x5_0 x5_1)) (fun x3 x6 x8 x0_0 x0_1 x0_2 x2_0 x2_1 x5_0 x5_1 x7 => R spec_l1Cur_problem.S11 (spec_l1Cur_problem.m11 x3 x6 x8 x0_0 x0_1 x0_2 x2_0 x2_1 x5_0 x5_1 x7)) (fun x3 x9 x10 o0_0 o0_1 o0_2 x2_0 x2_1 x5_0 x5_1 => R spec_l1Cur_problem.S25 (spec_l1Cur_problem.m25 x3 x9 x10 o0_0 o0_1 o0_2 x2_0 x2_1 x5_0 x5_1)) x3 x9 x10 o0_0 o0_1 o0_2 x2_0 x2_1 x5_0 x5_1 := by kernel_rfl
theorem spec_l1Cur_problem.h (k : Nat) (R : List Item → St → Option (PD spec_l1Cur_problem.rs)) (a0 : List Int) (a1 : Int) (a2 : Int) : run (spec_l1Cur_problem.E k) R 4000 true [.code (bodyOf Tryz.f18)] (stA (spec_l1Cur_problem.E k) [.v (.list (.int .u8)) a0, .v (.int .i64) a1, .v (.int .u64) a2]) = spec_l1Cur_problem.B k (fun x3 x6 x0_0 x0_1 x0_2 x2_0 x2_1 x5_0 x5_1 => R spec_l1Cur_problem.S7 (spec_l1Cur_problem.m7 x3 x6 x0_0 x0_1 x0_2 x2_0 x2_1 x5_0 x5_1)) (fun x3 x6 x8 x0_0 x0_1 x0_2 x2_0 x2_1 x5_0 x5_1 x7 => R spec_l1Cur_problem.S11 (spec_l1Cur_problem.m11 x3 x6 x8 x0_0 x0_1 x0_2 x2_0 x2_1 x5_0 x5_1 x7)) (fun x3 x9 x10 o0_0 o0_1 o0_2 x2_0 x2_1 x5_0 x5_1 => R spec_l1Cur_problem.S25 (spec_l1Cur_problem.m25 x3 x9 x10 o0_0 o0_1 o0_2 x2_0 x2_1 x5_0 x5_1)) a0 a1 a2 := by kernel_rfl
theorem spec_l1Cur_problem.eok (k : Nat) : EOk Tryz.prog (spec_l1Cur_problem.E k) Tryz.f18 :=
  ⟨Tryz.func18, Tryz.ntmps18, by kernel_rfl, tab_ok, mixed, cuts_of (by kernel_rfl), Tab.ok (.cons (spec_l1Cur_among.ok) (by kernel_rfl) (.cons (spec_l1Cur_pick.ok) (by kernel_rfl) (.cons (spec_l6Uniform.ok k) (by kernel_rfl) (.cons (spec_l1Cur_one.ok) (by kernel_rfl) (.cons (spec_l6Line.ok k) (by kernel_rfl) (.cons (spec_l8Least.ok k) (by kernel_rfl) (.cons (spec_l8Request.ok k) (by kernel_rfl) .nil))))))), by kernel_rfl⟩
theorem spec_l1Cur_problem.ff (k : Nat) : ∀ n : Nat, ((fun x3 x6 x0_0 x0_1 x0_2 x2_0 x2_1 x5_0 x5_1 => FF (spec_l1Cur_problem.E k) n spec_l1Cur_problem.S7 (spec_l1Cur_problem.m7 x3 x6 x0_0 x0_1 x0_2 x2_0 x2_1 x5_0 x5_1)), (fun x3 x6 x8 x0_0 x0_1 x0_2 x2_0 x2_1 x5_0 x5_1 x7 => FF (spec_l1Cur_problem.E k) n spec_l1Cur_problem.S11 (spec_l1Cur_problem.m11 x3 x6 x8 x0_0 x0_1 x0_2 x2_0 x2_1 x5_0 x5_1 x7)), (fun x3 x9 x10 o0_0 o0_1 o0_2 x2_0 x2_1 x5_0 x5_1 => FF (spec_l1Cur_problem.E k) n spec_l1Cur_problem.S25 (spec_l1Cur_problem.m25 x3 x9 x10 o0_0 o0_1 o0_2 x2_0 x2_1 x5_0 x5_1))) = spec_l1Cur_problem.bs k n
  | 0 => rfl
  | n + 1 => by
    show ((fun x3 x6 x0_0 x0_1 x0_2 x2_0 x2_1 x5_0 x5_1 => FF (spec_l1Cur_problem.E k) (n + 1) spec_l1Cur_problem.S7 (spec_l1Cur_problem.m7 x3 x6 x0_0 x0_1 x0_2 x2_0 x2_1 x5_0 x5_1)), (fun x3 x6 x8 x0_0 x0_1 x0_2 x2_0 x2_1 x5_0 x5_1 x7 => FF (spec_l1Cur_problem.E k) (n + 1) spec_l1Cur_problem.S11 (spec_l1Cur_problem.m11 x3 x6 x8 x0_0 x0_1 x0_2 x2_0 x2_1 x5_0 x5_1 x7)), (fun x3 x9 x10 o0_0 o0_1 o0_2 x2_0 x2_1 x5_0 x5_1 => FF (spec_l1Cur_problem.E k) (n + 1) spec_l1Cur_problem.S25 (spec_l1Cur_problem.m25 x3 x9 x10 o0_0 o0_1 o0_2 x2_0 x2_1 x5_0 x5_1))) = (spec_l1Cur_problem.B7 k ((spec_l1Cur_problem.bs k n).1) ((spec_l1Cur_problem.bs k n).2.1) ((spec_l1Cur_problem.bs k n).2.2), spec_l1Cur_problem.B11 k ((spec_l1Cur_problem.bs k n).1) ((spec_l1Cur_problem.bs k n).2.1) ((spec_l1Cur_problem.bs k n).2.2), spec_l1Cur_problem.B25 k ((spec_l1Cur_problem.bs k n).1) ((spec_l1Cur_problem.bs k n).2.1) ((spec_l1Cur_problem.bs k n).2.2))
    rw [← spec_l1Cur_problem.ff k n]
    exact (Prod.ext (funext fun x3 => funext fun x6 => funext fun x0_0 => funext fun x0_1 => funext fun x0_2 => funext fun x2_0 => funext fun x2_1 => funext fun x5_0 => funext fun x5_1 => by dsimp only; exact (FF_succ ..).trans (spec_l1Cur_problem.h7 k (fun t s => FF (spec_l1Cur_problem.E k) n t s) x3 x6 x0_0 x0_1 x0_2 x2_0 x2_1 x5_0 x5_1)) (Prod.ext (funext fun x3 => funext fun x6 => funext fun x8 => funext fun x0_0 => funext fun x0_1 => funext fun x0_2 => funext fun x2_0 => funext fun x2_1 => funext fun x5_0 => funext fun x5_1 => funext fun x7 => by dsimp only; exact (FF_succ ..).trans (spec_l1Cur_problem.h11 k (fun t s => FF (spec_l1Cur_problem.E k) n t s) x3 x6 x8 x0_0 x0_1 x0_2 x2_0 x2_1 x5_0 x5_1 x7)) (funext fun x3 => funext fun x9 => funext fun x10 => funext fun o0_0 => funext fun o0_1 => funext fun o0_2 => funext fun x2_0 => funext fun x2_1 => funext fun x5_0 => funext fun x5_1 => by dsimp only; exact (FF_succ ..).trans (spec_l1Cur_problem.h25 k (fun t s => FF (spec_l1Cur_problem.E k) n t s) x3 x9 x10 o0_0 o0_1 o0_2 x2_0 x2_1 x5_0 x5_1))))
theorem spec_l1Cur_problem.run (k : Nat) (a0 : List Int) (a1 : Int) (a2 : Int): FF (spec_l1Cur_problem.E k) (k + 1) [.code (bodyOf Tryz.f18)] (stA (spec_l1Cur_problem.E k) [.v (.list (.int .u8)) a0, .v (.int .i64) a1, .v (.int .u64) a2]) = spec_l1Cur_problem.f k a0 a1 a2 :=
  (FF_succ ..).trans ((spec_l1Cur_problem.h k (fun t s => FF (spec_l1Cur_problem.E k) k t s) a0 a1 a2).trans (by
    show _ = spec_l1Cur_problem.B k ((spec_l1Cur_problem.bs k k).1) ((spec_l1Cur_problem.bs k k).2.1) ((spec_l1Cur_problem.bs k k).2.2) a0 a1 a2
    rw [← spec_l1Cur_problem.ff k k]))
theorem spec_l1Cur_problem.ok (k : Nat) : FnOK Tryz.prog spec_l1Cur_problem.ent spec_l1Cur_problem.ts spec_l1Cur_problem.rs fun a => spec_l1Cur_problem.f k a.1 a.2.1 a.2.2 :=
  ⟨hasBody_of Tryz.func18 (by kernel_rfl), by kernel_rfl, by kernel_rfl, fun a r hr => good_of (E := (spec_l1Cur_problem.E k)) (k := (k + 1)) (xs := encL spec_l1Cur_problem.ts a) (spec_l1Cur_problem.eok k) (body := (bodyOf Tryz.f18)) (by kernel_rfl) (by kernel_rfl) ((spec_l1Cur_problem.run k a.1 a.2.1 a.2.2).trans hr)⟩

def spec_l1Cur_weights11.B3 (k : Nat) (r3 : Int → Int → Int → List Int → Int → Int → List Int → Option (List Int × Int × Int × List Int)) (x1 : Int) (x2 : Int) (x8 : Int) (x0_0 : List Int) (x0_1 : Int) (x0_2 : Int) (x7 : List Int) : Option (List Int × Int × Int × List Int) :=
  bif decide (x8 < x1) then ((spec_l1Cur_among.f [1, 1, 2, 3, 5, 9, x2] x0_0 x0_1 x0_2).bind fun t1 => (if x7.length + 1 ≤ capB then (r3 x1 x2 (w64 (x8 + 1)) t1.2.1 t1.2.2.1 t1.2.2.2 (x7 ++ [t1.1])) else none)) else ((spec_l1Cur_pick.f 32 x0_0 x0_1 x0_2).bind fun t2 => (bif decide (t2.1 = (0 : Int)) then (if x7.length + 1 ≤ capB then some (t2.2.1, t2.2.2.1, t2.2.2.2, x7 ++ [1]) else none) else (bif decide (t2.1 = (1 : Int)) then (bif decide ((0 : Int) < (x7.length : Int)) then ((spec_l1Cur_among.f [0, (-1), 10] t2.2.1 t2.2.2.1 t2.2.2.2).bind fun t3 => (if (0 : Int) ≤ 0 ∧ (0 : Int) < (x7.length : Int) then some (t3.2.1, t3.2.2.1, t3.2.2.2, x7.set 0 t3.1) else none)) else some (t2.2.1, t2.2.2.1, t2.2.2.2, x7)) else some (t2.2.1, t2.2.2.1, t2.2.2.2, x7))))
def spec_l1Cur_weights11.B (k : Nat) (r3 : Int → Int → Int → List Int → Int → Int → List Int → Option (List Int × Int × Int × List Int)) (a0 : Int) (a1 : Int) (a2 : List Int) (a3 : Int) (a4 : Int) : Option (List Int × Int × Int × List Int) :=
  r3 a0 a1 0 a2 a3 a4 []
def spec_l1Cur_weights11.bs (k : Nat) : Nat → (Int → Int → Int → List Int → Int → Int → List Int → Option (List Int × Int × Int × List Int))
  | 0 => (fun _ _ _ _ _ _ _ => none)
  | n + 1 => (spec_l1Cur_weights11.B3 k ((spec_l1Cur_weights11.bs k n)))
def spec_l1Cur_weights11.f (k : Nat) (a0 : Int) (a1 : Int) (a2 : List Int) (a3 : Int) (a4 : Int) : Option (List Int × Int × Int × List Int) := spec_l1Cur_weights11.B k ((spec_l1Cur_weights11.bs k k)) a0 a1 a2 a3 a4
def spec_l1Cur_weights11.ent : Ent := ⟨54, [.p 0, .h (.int .i64), .h (.int .i64)], [.box [.h (.list (.int .u8)), .h (.int .i64), .h (.int .u64)]], .own 1 (.int .i64), [.box [.h (.list (.int .u8)), .h (.int .i64), .h (.int .u64)], .buf (.int .i64)], 13⟩
abbrev spec_l1Cur_weights11.ts : List Ty := [.int .i64, .int .i64, .list (.int .u8), .int .i64, .int .u64]
abbrev spec_l1Cur_weights11.rs : List Ty := [.list (.int .u8), .int .i64, .int .u64, .list (.int .i64)]
def spec_l1Cur_weights11.c3 : Cut := ⟨3, [(0, .p 0), (1, .h (.int .i64)), (2, .h (.int .i64)), (7, .own 1 (.int .i64)), (8, .h (.int .i64))], [.box [.h (.list (.int .u8)), .h (.int .i64), .h (.int .u64)], .buf (.int .i64)]⟩
noncomputable def spec_l1Cur_weights11.E (k : Nat) : Env :=
  ⟨tab, 40, spec_l1Cur_weights11.ent, spec_l1Cur_weights11.rs, [spec_l1Cur_among.ent, spec_l1Cur_pick.ent], ctOf [(3, mkF spec_l1Cur_among.ts spec_l1Cur_among.rs fun a => spec_l1Cur_among.f a.1 a.2.1 a.2.2.1 a.2.2.2),
    (2, mkF spec_l1Cur_pick.ts spec_l1Cur_pick.rs fun a => spec_l1Cur_pick.f a.1 a.2.1 a.2.2.1 a.2.2.2)], [spec_l1Cur_weights11.c3], [.tmp 6]⟩
noncomputable def spec_l1Cur_weights11.S3 : List Item := stk (bodyOf Tryz.f54) 3
noncomputable def spec_l1Cur_weights11.m3 (x1 : Int) (x2 : Int) (x8 : Int) (x0_0 : List Int) (x0_1 : Int) (x0_2 : Int) (x7 : List Int) : St := mkS spec_l1Cur_weights11.c3 [.v (.int .i64) x1, .v (.int .i64) x2, .v (.int .i64) x8, .v (.list (.int .u8)) x0_0, .v (.int .i64) x0_1, .v (.int .u64) x0_2, .v (.list (.int .i64)) x7]
theorem spec_l1Cur_weights11.h3 (k : Nat) (R : List Item → St → Option (PD spec_l1Cur_weights11.rs)) (x1 : Int) (x2 : Int) (x8 : Int) (x0_0 : List Int) (x0_1 : Int) (x0_2 : Int) (x7 : List Int) : run (spec_l1Cur_weights11.E k) R 4000 true spec_l1Cur_weights11.S3 (spec_l1Cur_weights11.m3 x1 x2 x8 x0_0 x0_1 x0_2 x7) = spec_l1Cur_weights11.B3 k (fun x1 x2 x8 x0_0 x0_1 x0_2 x7 => R spec_l1Cur_weights11.S3 (spec_l1Cur_weights11.m3 x1 x2 x8 x0_0 x0_1 x0_2 x7)) x1 x2 x8 x0_0 x0_1 x0_2 x7 := by kernel_rfl
theorem spec_l1Cur_weights11.h (k : Nat) (R : List Item → St → Option (PD spec_l1Cur_weights11.rs)) (a0 : Int) (a1 : Int) (a2 : List Int) (a3 : Int) (a4 : Int) : run (spec_l1Cur_weights11.E k) R 4000 true [.code (bodyOf Tryz.f54)] (stA (spec_l1Cur_weights11.E k) [.v (.int .i64) a0, .v (.int .i64) a1, .v (.list (.int .u8)) a2, .v (.int .i64) a3, .v (.int .u64) a4]) = spec_l1Cur_weights11.B k (fun x1 x2 x8 x0_0 x0_1 x0_2 x7 => R spec_l1Cur_weights11.S3 (spec_l1Cur_weights11.m3 x1 x2 x8 x0_0 x0_1 x0_2 x7)) a0 a1 a2 a3 a4 := by kernel_rfl
theorem spec_l1Cur_weights11.eok (k : Nat) : EOk Tryz.prog (spec_l1Cur_weights11.E k) Tryz.f54 :=
  ⟨Tryz.func54, Tryz.ntmps54, by kernel_rfl, tab_ok, mixed, cuts_of (by kernel_rfl), Tab.ok (.cons (spec_l1Cur_among.ok) (by kernel_rfl) (.cons (spec_l1Cur_pick.ok) (by kernel_rfl) .nil)), by kernel_rfl⟩
theorem spec_l1Cur_weights11.ff (k : Nat) : ∀ n : Nat, (fun x1 x2 x8 x0_0 x0_1 x0_2 x7 => FF (spec_l1Cur_weights11.E k) n spec_l1Cur_weights11.S3 (spec_l1Cur_weights11.m3 x1 x2 x8 x0_0 x0_1 x0_2 x7)) = spec_l1Cur_weights11.bs k n
  | 0 => rfl
  | n + 1 => by
    show (fun x1 x2 x8 x0_0 x0_1 x0_2 x7 => FF (spec_l1Cur_weights11.E k) (n + 1) spec_l1Cur_weights11.S3 (spec_l1Cur_weights11.m3 x1 x2 x8 x0_0 x0_1 x0_2 x7)) = (spec_l1Cur_weights11.B3 k ((spec_l1Cur_weights11.bs k n)))
    rw [← spec_l1Cur_weights11.ff k n]
    exact (funext fun x1 => funext fun x2 => funext fun x8 => funext fun x0_0 => funext fun x0_1 => funext fun x0_2 => funext fun x7 => (FF_succ ..).trans (spec_l1Cur_weights11.h3 k (fun t s => FF (spec_l1Cur_weights11.E k) n t s) x1 x2 x8 x0_0 x0_1 x0_2 x7))
theorem spec_l1Cur_weights11.run (k : Nat) (a0 : Int) (a1 : Int) (a2 : List Int) (a3 : Int) (a4 : Int): FF (spec_l1Cur_weights11.E k) (k + 1) [.code (bodyOf Tryz.f54)] (stA (spec_l1Cur_weights11.E k) [.v (.int .i64) a0, .v (.int .i64) a1, .v (.list (.int .u8)) a2, .v (.int .i64) a3, .v (.int .u64) a4]) = spec_l1Cur_weights11.f k a0 a1 a2 a3 a4 :=
  (FF_succ ..).trans ((spec_l1Cur_weights11.h k (fun t s => FF (spec_l1Cur_weights11.E k) k t s) a0 a1 a2 a3 a4).trans (by
    show _ = spec_l1Cur_weights11.B k ((spec_l1Cur_weights11.bs k k)) a0 a1 a2 a3 a4
    rw [← spec_l1Cur_weights11.ff k k]))
theorem spec_l1Cur_weights11.ok (k : Nat) : FnOK Tryz.prog spec_l1Cur_weights11.ent spec_l1Cur_weights11.ts spec_l1Cur_weights11.rs fun a => spec_l1Cur_weights11.f k a.1 a.2.1 a.2.2.1 a.2.2.2.1 a.2.2.2.2 :=
  ⟨hasBody_of Tryz.func54 (by kernel_rfl), by kernel_rfl, by kernel_rfl, fun a r hr => good_of (E := (spec_l1Cur_weights11.E k)) (k := (k + 1)) (xs := encL spec_l1Cur_weights11.ts a) (spec_l1Cur_weights11.eok k) (body := (bodyOf Tryz.f54)) (by kernel_rfl) (by kernel_rfl) ((spec_l1Cur_weights11.run k a.1 a.2.1 a.2.2.1 a.2.2.2.1 a.2.2.2.2).trans hr)⟩

def spec_l1Own.B (a0 : List Int) : Option (List Int) :=
  if 0 + a0.length ≤ capB then some ([] ++ a0) else none
def spec_l1Own.f (a0 : List Int) : Option (List Int) := spec_l1Own.B a0
def spec_l1Own.ent : Ent := ⟨55, [.h (.list (.int .i64))], [], .own 0 (.int .i64), [.buf (.int .i64)], 14⟩
abbrev spec_l1Own.ts : List Ty := [.list (.int .i64)]
abbrev spec_l1Own.rs : List Ty := [.list (.int .i64)]
noncomputable def spec_l1Own.E : Env :=
  ⟨tab, 6, spec_l1Own.ent, spec_l1Own.rs, [], ctOf [], [], [.tmp 2]⟩
theorem spec_l1Own.h (R : List Item → St → Option (PD spec_l1Own.rs)) (a0 : List Int) : run (spec_l1Own.E) R 4000 true [.code (bodyOf Tryz.f55)] (stA (spec_l1Own.E) [.v (.list (.int .i64)) a0]) = spec_l1Own.B a0 := by kernel_rfl
theorem spec_l1Own.eok : EOk Tryz.prog (spec_l1Own.E) Tryz.f55 :=
  ⟨Tryz.func55, Tryz.ntmps55, by kernel_rfl, tab_ok, mixed, cuts_of (by kernel_rfl), Tab.ok .nil, by kernel_rfl⟩
theorem spec_l1Own.run (a0 : List Int): FF (spec_l1Own.E) 1 [.code (bodyOf Tryz.f55)] (stA (spec_l1Own.E) [.v (.list (.int .i64)) a0]) = spec_l1Own.f a0 :=
  (FF_succ ..).trans (spec_l1Own.h (fun t s => FF (spec_l1Own.E) 0 t s) a0)
theorem spec_l1Own.ok : FnOK Tryz.prog spec_l1Own.ent spec_l1Own.ts spec_l1Own.rs fun a => spec_l1Own.f a :=
  ⟨hasBody_of Tryz.func55 (by kernel_rfl), by kernel_rfl, by kernel_rfl, fun a r hr => good_of (E := (spec_l1Own.E)) (k := 1) (xs := encL spec_l1Own.ts a) (spec_l1Own.eok) (body := (bodyOf Tryz.f55)) (by kernel_rfl) (by kernel_rfl) ((spec_l1Own.run a).trans hr)⟩

def spec_l4With.B (a0 : List Int) (a1 : Int) (a2 : Int) : Option (List Int) :=
  (spec_l1Own.f a0).bind fun t1 => (if (0 : Int) ≤ a1 ∧ a1 < (t1.length : Int) then some (t1.set a1.toNat a2) else none)
def spec_l4With.f (a0 : List Int) (a1 : Int) (a2 : Int) : Option (List Int) := spec_l4With.B a0 a1 a2
def spec_l4With.ent : Ent := ⟨53, [.h (.list (.int .i64)), .h (.int .i64), .h (.int .i64)], [], .own 0 (.int .i64), [.buf (.int .i64)], 15⟩
abbrev spec_l4With.ts : List Ty := [.list (.int .i64), .int .i64, .int .i64]
abbrev spec_l4With.rs : List Ty := [.list (.int .i64)]
noncomputable def spec_l4With.E : Env :=
  ⟨tab, 15, spec_l4With.ent, spec_l4With.rs, [spec_l1Own.ent], ctOf [(14, mkF spec_l1Own.ts spec_l1Own.rs fun a => spec_l1Own.f a)], [], [.tmp 6]⟩
theorem spec_l4With.h (R : List Item → St → Option (PD spec_l4With.rs)) (a0 : List Int) (a1 : Int) (a2 : Int) : run (spec_l4With.E) R 4000 true [.code (bodyOf Tryz.f53)] (stA (spec_l4With.E) [.v (.list (.int .i64)) a0, .v (.int .i64) a1, .v (.int .i64) a2]) = spec_l4With.B a0 a1 a2 := by kernel_rfl
theorem spec_l4With.eok : EOk Tryz.prog (spec_l4With.E) Tryz.f53 :=
  ⟨Tryz.func53, Tryz.ntmps53, by kernel_rfl, tab_ok, mixed, cuts_of (by kernel_rfl), Tab.ok (.cons (spec_l1Own.ok) (by kernel_rfl) .nil), by kernel_rfl⟩
theorem spec_l4With.run (a0 : List Int) (a1 : Int) (a2 : Int): FF (spec_l4With.E) 1 [.code (bodyOf Tryz.f53)] (stA (spec_l4With.E) [.v (.list (.int .i64)) a0, .v (.int .i64) a1, .v (.int .i64) a2]) = spec_l4With.f a0 a1 a2 :=
  (FF_succ ..).trans (spec_l4With.h (fun t s => FF (spec_l4With.E) 0 t s) a0 a1 a2)
theorem spec_l4With.ok : FnOK Tryz.prog spec_l4With.ent spec_l4With.ts spec_l4With.rs fun a => spec_l4With.f a.1 a.2.1 a.2.2 :=
  ⟨hasBody_of Tryz.func53 (by kernel_rfl), by kernel_rfl, by kernel_rfl, fun a r hr => good_of (E := (spec_l4With.E)) (k := 1) (xs := encL spec_l4With.ts a) (spec_l4With.eok) (body := (bodyOf Tryz.f53)) (by kernel_rfl) (by kernel_rfl) ((spec_l4With.run a.1 a.2.1 a.2.2).trans hr)⟩

def spec_l1Cur_chances.B4 (k : Nat) (r4 : Int → Int → List Int → Int → Int → List (List Int) → List (List Int) → List Int → List (List Int) → List Int → List (List Int) → Option (List Int × Int × Int × List Int × List (List Int))) (r7 : Int → Int → List Int → Int → Int → List (List Int) → List (List Int) → List Int → List (List Int) → List Int → List (List Int) → List Int → Option (List Int × Int × Int × List Int × List (List Int))) (x6 : Int) (x7 : Int) (x0_0 : List Int) (x0_1 : Int) (x0_2 : Int) (x3_0 : List (List Int)) (x3_1 : List (List Int)) (x4_0 : List Int) (x4_1 : List (List Int)) (x5_0 : List Int) (x5_1 : List (List Int)) : Option (List Int × Int × Int × List Int × List (List Int)) :=
  bif decide ((0 : Int) < x7) then (r7 x6 x7 x0_0 x0_1 x0_2 x3_0 x3_1 x4_0 x4_1 x5_0 x5_1 []) else ((spec_l1Cur_weights11.f k (x5_1.length : Int) 1 x0_0 x0_1 x0_2).bind fun t4 => (bif decide ((0 : Int) < (x5_1.length : Int)) then ((spec_l1Cur_pick.f 32 t4.1 t4.2.1 t4.2.2.1).bind fun t5 => (bif decide (t5.1 = (0 : Int)) then (if (0 : Int) ≤ 0 ∧ (0 : Int) < (x5_1.length : Int) then ((spec_l1Own.f (x5_1.getD 0 [])).bind fun t6 => (if t6.length + 1 ≤ capB then (if (0 : Int) ≤ 0 ∧ (0 : Int) < (x5_1.length : Int) then some (t5.2.1, t5.2.2.1, t5.2.2.2, t4.2.2.2, x5_1.set 0 (t6 ++ [0])) else none) else none)) else none) else (bif decide (t5.1 = (1 : Int)) then ((spec_l1Cur_pick.f 3 t5.2.1 t5.2.2.1 t5.2.2.2).bind fun t7 => (if (0 : Int) ≤ 0 ∧ (0 : Int) ≤ w64 (5 + t7.1) ∧ w64 (5 + t7.1) ≤ (7 : Int) then (if (0 : Int) ≤ 0 ∧ (0 : Int) < (x5_1.length : Int) then some (t7.2.1, t7.2.2.1, t7.2.2.2, t4.2.2.2, x5_1.set 0 (List.take ((w64 (5 + t7.1) - 0).toNat) (List.drop 0 [0, 0, 0, 0, 0, 0, 0]))) else none) else none)) else (bif decide (t5.1 = (2 : Int)) then (if (0 : Int) ≤ 0 ∧ (0 : Int) < (x5_1.length : Int) then ((spec_l1Own.f (x5_1.getD 0 [])).bind fun t8 => ((spec_l1Cur_among.f [(-1), 4] t5.2.1 t5.2.2.1 t5.2.2.2).bind fun t9 => (if t8.length + 1 ≤ capB then (if (0 : Int) ≤ 0 ∧ (0 : Int) < (x5_1.length : Int) then some (t9.2.1, t9.2.2.1, t9.2.2.2, t4.2.2.2, x5_1.set 0 (t8 ++ [t9.1])) else none) else none))) else none) else some (t5.2.1, t5.2.2.1, t5.2.2.2, t4.2.2.2, x5_1))))) else some (t4.1, t4.2.1, t4.2.2.1, t4.2.2.2, x5_1)))
def spec_l1Cur_chances.B7 (k : Nat) (r4 : Int → Int → List Int → Int → Int → List (List Int) → List (List Int) → List Int → List (List Int) → List Int → List (List Int) → Option (List Int × Int × Int × List Int × List (List Int))) (r7 : Int → Int → List Int → Int → Int → List (List Int) → List (List Int) → List Int → List (List Int) → List Int → List (List Int) → List Int → Option (List Int × Int × Int × List Int × List (List Int))) (x6 : Int) (x7 : Int) (x0_0 : List Int) (x0_1 : Int) (x0_2 : Int) (x3_0 : List (List Int)) (x3_1 : List (List Int)) (x4_0 : List Int) (x4_1 : List (List Int)) (x5_0 : List Int) (x5_1 : List (List Int)) (x8 : List Int) : Option (List Int × Int × Int × List Int × List (List Int)) :=
  bif decide ((x8.length : Int) < x6) then ((spec_l1Most.f 1 (x3_1.length : Int)).bind fun t10 => ((spec_l1Cur_pick.f t10 x0_0 x0_1 x0_2).bind fun t11 => (if x8.length + 1 ≤ capB then (r7 x6 x7 t11.2.1 t11.2.2.1 t11.2.2.2 x3_0 x3_1 x4_0 x4_1 x5_0 x5_1 (x8 ++ [t11.1])) else none))) else (bif decide ((0 : Int) < (x5_1.length : Int)) then (bif decide ((0 : Int) < x6) then ((spec_l1Cur_one.f 2 x0_0 x0_1 x0_2).bind fun t12 => (bif t12.1 then (if (0 : Int) ≤ w64 ((x5_1.length : Int) - 1) ∧ w64 ((x5_1.length : Int) - 1) < (x5_1.length : Int) then (if (0 : Int) ≤ w64 (x6 - 1) ∧ w64 (x6 - 1) < (x8.length : Int) then ((spec_l4With.f (x5_1.getD ((w64 ((x5_1.length : Int) - 1)).toNat) []) (w64 (x6 - 1)) (x8.getD ((w64 (x6 - 1)).toNat) 0)).bind fun t13 => (if x5_1.length + 1 ≤ capB then (r4 x6 (w64 (x7 - 1)) t12.2.1 t12.2.2.1 t12.2.2.2 x3_0 x3_1 x4_0 x4_1 x5_0 (x5_1 ++ [t13])) else none)) else none) else none) else (if x5_1.length + 1 ≤ capB then (r4 x6 (w64 (x7 - 1)) t12.2.1 t12.2.2.1 t12.2.2.2 x3_0 x3_1 x4_0 x4_1 x5_0 (x5_1 ++ [x8])) else none))) else (if x5_1.length + 1 ≤ capB then (r4 x6 (w64 (x7 - 1)) x0_0 x0_1 x0_2 x3_0 x3_1 x4_0 x4_1 x5_0 (x5_1 ++ [x8])) else none)) else (if x5_1.length + 1 ≤ capB then (r4 x6 (w64 (x7 - 1)) x0_0 x0_1 x0_2 x3_0 x3_1 x4_0 x4_1 x5_0 (x5_1 ++ [x8])) else none))
def spec_l1Cur_chances.B (k : Nat) (r4 : Int → Int → List Int → Int → Int → List (List Int) → List (List Int) → List Int → List (List Int) → List Int → List (List Int) → Option (List Int × Int × Int × List Int × List (List Int))) (r7 : Int → Int → List Int → Int → Int → List (List Int) → List (List Int) → List Int → List (List Int) → List Int → List (List Int) → List Int → Option (List Int × Int × Int × List Int × List (List Int))) (a0 : List (List Int)) (a1 : List (List Int)) (a2 : List Int) (a3 : Int) (a4 : Int) : Option (List Int × Int × Int × List Int × List (List Int)) :=
  (spec_l1Cur_among.f [1, 2, 3, 3, 4, 0, 5] a2 a3 a4).bind fun t1 => ((spec_l1Cur_pick.f 16 t1.2.1 t1.2.2.1 t1.2.2.2).bind fun t2 => (if (6 : Int) ≠ 0 then (if (0 : Int) ≤ 0 ∧ (0 : Int) ≤ w64 (7 + (w64 (Int.tdiv t2.1 6))) ∧ w64 (7 + (w64 (Int.tdiv t2.1 6))) ≤ (9 : Int) then ((spec_l1Cur_among.f (List.take ((w64 (7 + (w64 (Int.tdiv t2.1 6))) - 0).toNat) (List.drop 0 [1, 2, 3, 4, 5, 6, 3, 13, 0])) t2.2.1 t2.2.2.1 t2.2.2.2).bind fun t3 => (r4 t1.1 t3.1 t3.2.1 t3.2.2.1 t3.2.2.2 a0 a1 [] [] [] [])) else none) else none))
def spec_l1Cur_chances.bs (k : Nat) : Nat → (Int → Int → List Int → Int → Int → List (List Int) → List (List Int) → List Int → List (List Int) → List Int → List (List Int) → Option (List Int × Int × Int × List Int × List (List Int))) × (Int → Int → List Int → Int → Int → List (List Int) → List (List Int) → List Int → List (List Int) → List Int → List (List Int) → List Int → Option (List Int × Int × Int × List Int × List (List Int)))
  | 0 => (fun _ _ _ _ _ _ _ _ _ _ _ => none, fun _ _ _ _ _ _ _ _ _ _ _ _ => none)
  | n + 1 => (spec_l1Cur_chances.B4 k ((spec_l1Cur_chances.bs k n).1) ((spec_l1Cur_chances.bs k n).2), spec_l1Cur_chances.B7 k ((spec_l1Cur_chances.bs k n).1) ((spec_l1Cur_chances.bs k n).2))
def spec_l1Cur_chances.f (k : Nat) (a0 : List (List Int)) (a1 : List (List Int)) (a2 : List Int) (a3 : Int) (a4 : Int) : Option (List Int × Int × Int × List Int × List (List Int)) := spec_l1Cur_chances.B k ((spec_l1Cur_chances.bs k k).1) ((spec_l1Cur_chances.bs k k).2) a0 a1 a2 a3 a4
def spec_l1Cur_chances.ent : Ent := ⟨19, [.p 0, .agg [.h (.list (.list (.int .i64))), .h (.list (.list (.int .i64)))]], [.box [.h (.list (.int .u8)), .h (.int .i64), .h (.int .u64)]], .agg [.own 1 (.int .i64), .own 2 (.list (.int .i64))], [.box [.h (.list (.int .u8)), .h (.int .i64), .h (.int .u64)], .buf (.int .i64), .buf (.list (.int .i64))], 16⟩
abbrev spec_l1Cur_chances.ts : List Ty := [.list (.list (.int .i64)), .list (.list (.int .i64)), .list (.int .u8), .int .i64, .int .u64]
abbrev spec_l1Cur_chances.rs : List Ty := [.list (.int .u8), .int .i64, .int .u64, .list (.int .i64), .list (.list (.int .i64))]
def spec_l1Cur_chances.c4 : Cut := ⟨4, [(0, .p 0), (3, .p 1), (4, .p 2), (5, .p 5), (6, .h (.int .i64)), (7, .h (.int .i64))], [.box [.h (.list (.int .u8)), .h (.int .i64), .h (.int .u64)], .box [.h (.list (.list (.int .i64))), .h (.list (.list (.int .i64)))], .box [.own 3 (.int .i64), .ownm 4 (.int .i64)], .buf (.int .i64), .mat (.int .i64), .box [.own 6 (.int .i64), .ownm 7 (.int .i64)], .buf (.int .i64), .mat (.int .i64)]⟩
def spec_l1Cur_chances.c7 : Cut := ⟨7, [(0, .p 0), (3, .p 1), (4, .p 2), (5, .p 5), (6, .h (.int .i64)), (7, .h (.int .i64)), (8, .own 8 (.int .i64))], [.box [.h (.list (.int .u8)), .h (.int .i64), .h (.int .u64)], .box [.h (.list (.list (.int .i64))), .h (.list (.list (.int .i64)))], .box [.own 3 (.int .i64), .ownm 4 (.int .i64)], .buf (.int .i64), .mat (.int .i64), .box [.own 6 (.int .i64), .ownm 7 (.int .i64)], .buf (.int .i64), .mat (.int .i64), .buf (.int .i64)]⟩
noncomputable def spec_l1Cur_chances.E (k : Nat) : Env :=
  ⟨tab, 123, spec_l1Cur_chances.ent, spec_l1Cur_chances.rs, [spec_l1Cur_among.ent, spec_l1Cur_pick.ent, spec_l1Cur_weights11.ent, spec_l1Own.ent, spec_l1Most.ent, spec_l1Cur_one.ent, spec_l4With.ent], ctOf [(3, mkF spec_l1Cur_among.ts spec_l1Cur_among.rs fun a => spec_l1Cur_among.f a.1 a.2.1 a.2.2.1 a.2.2.2),
    (2, mkF spec_l1Cur_pick.ts spec_l1Cur_pick.rs fun a => spec_l1Cur_pick.f a.1 a.2.1 a.2.2.1 a.2.2.2),
    (13, mkF spec_l1Cur_weights11.ts spec_l1Cur_weights11.rs fun a => spec_l1Cur_weights11.f k a.1 a.2.1 a.2.2.1 a.2.2.2.1 a.2.2.2.2),
    (14, mkF spec_l1Own.ts spec_l1Own.rs fun a => spec_l1Own.f a),
    (6, mkF spec_l1Most.ts spec_l1Most.rs fun a => spec_l1Most.f a.1 a.2),
    (5, mkF spec_l1Cur_one.ts spec_l1Cur_one.rs fun a => spec_l1Cur_one.f a.1 a.2.1 a.2.2.1 a.2.2.2),
    (15, mkF spec_l4With.ts spec_l4With.rs fun a => spec_l4With.f a.1 a.2.1 a.2.2)], [spec_l1Cur_chances.c4, spec_l1Cur_chances.c7], [.cell 4 29]⟩
noncomputable def spec_l1Cur_chances.S4 : List Item := stk (bodyOf Tryz.f19) 4
noncomputable def spec_l1Cur_chances.m4 (x6 : Int) (x7 : Int) (x0_0 : List Int) (x0_1 : Int) (x0_2 : Int) (x3_0 : List (List Int)) (x3_1 : List (List Int)) (x4_0 : List Int) (x4_1 : List (List Int)) (x5_0 : List Int) (x5_1 : List (List Int)) : St := mkS spec_l1Cur_chances.c4 [.v (.int .i64) x6, .v (.int .i64) x7, .v (.list (.int .u8)) x0_0, .v (.int .i64) x0_1, .v (.int .u64) x0_2, .v (.list (.list (.int .i64))) x3_0, .v (.list (.list (.int .i64))) x3_1, .v (.list (.int .i64)) x4_0, .v (.list (.list (.int .i64))) x4_1, .v (.list (.int .i64)) x5_0, .v (.list (.list (.int .i64))) x5_1]
noncomputable def spec_l1Cur_chances.S7 : List Item := stk (bodyOf Tryz.f19) 7
noncomputable def spec_l1Cur_chances.m7 (x6 : Int) (x7 : Int) (x0_0 : List Int) (x0_1 : Int) (x0_2 : Int) (x3_0 : List (List Int)) (x3_1 : List (List Int)) (x4_0 : List Int) (x4_1 : List (List Int)) (x5_0 : List Int) (x5_1 : List (List Int)) (x8 : List Int) : St := mkS spec_l1Cur_chances.c7 [.v (.int .i64) x6, .v (.int .i64) x7, .v (.list (.int .u8)) x0_0, .v (.int .i64) x0_1, .v (.int .u64) x0_2, .v (.list (.list (.int .i64))) x3_0, .v (.list (.list (.int .i64))) x3_1, .v (.list (.int .i64)) x4_0, .v (.list (.list (.int .i64))) x4_1, .v (.list (.int .i64)) x5_0, .v (.list (.list (.int .i64))) x5_1, .v (.list (.int .i64)) x8]
theorem spec_l1Cur_chances.h4 (k : Nat) (R : List Item → St → Option (PD spec_l1Cur_chances.rs)) (x6 : Int) (x7 : Int) (x0_0 : List Int) (x0_1 : Int) (x0_2 : Int) (x3_0 : List (List Int)) (x3_1 : List (List Int)) (x4_0 : List Int) (x4_1 : List (List Int)) (x5_0 : List Int) (x5_1 : List (List Int)) : run (spec_l1Cur_chances.E k) R 4000 true spec_l1Cur_chances.S4 (spec_l1Cur_chances.m4 x6 x7 x0_0 x0_1 x0_2 x3_0 x3_1 x4_0 x4_1 x5_0 x5_1) = spec_l1Cur_chances.B4 k (fun x6 x7 x0_0 x0_1 x0_2 x3_0 x3_1 x4_0 x4_1 x5_0 x5_1 => R spec_l1Cur_chances.S4 (spec_l1Cur_chances.m4 x6 x7 x0_0 x0_1 x0_2 x3_0 x3_1 x4_0 x4_1 x5_0 x5_1)) (fun x6 x7 x0_0 x0_1 x0_2 x3_0 x3_1 x4_0 x4_1 x5_0 x5_1 x8 => R spec_l1Cur_chances.S7 (spec_l1Cur_chances.m7 x6 x7 x0_0 x0_1 x0_2 x3_0 x3_1 x4_0 x4_1 x5_0 x5_1 x8)) x6 x7 x0_0 x0_1 x0_2 x3_0 x3_1 x4_0 x4_1 x5_0 x5_1 := by kernel_rfl
theorem spec_l1Cur_chances.h7 (k : Nat) (R : List Item → St → Option (PD spec_l1Cur_chances.rs)) (x6 : Int) (x7 : Int) (x0_0 : List Int) (x0_1 : Int) (x0_2 : Int) (x3_0 : List (List Int)) (x3_1 : List (List Int)) (x4_0 : List Int) (x4_1 : List (List Int)) (x5_0 : List Int) (x5_1 : List (List Int)) (x8 : List Int) : run (spec_l1Cur_chances.E k) R 4000 true spec_l1Cur_chances.S7 (spec_l1Cur_chances.m7 x6 x7 x0_0 x0_1 x0_2 x3_0 x3_1 x4_0 x4_1 x5_0 x5_1 x8) = spec_l1Cur_chances.B7 k (fun x6 x7 x0_0 x0_1 x0_2 x3_0 x3_1 x4_0 x4_1 x5_0 x5_1 => R spec_l1Cur_chances.S4 (spec_l1Cur_chances.m4 x6 x7 x0_0 x0_1 x0_2 x3_0 x3_1 x4_0 x4_1 x5_0 x5_1)) (fun x6 x7 x0_0 x0_1 x0_2 x3_0 x3_1 x4_0 x4_1 x5_0 x5_1 x8 => R spec_l1Cur_chances.S7 (spec_l1Cur_chances.m7 x6 x7 x0_0 x0_1 x0_2 x3_0 x3_1 x4_0 x4_1 x5_0 x5_1 x8)) x6 x7 x0_0 x0_1 x0_2 x3_0 x3_1 x4_0 x4_1 x5_0 x5_1 x8 := by kernel_rfl
theorem spec_l1Cur_chances.h (k : Nat) (R : List Item → St → Option (PD spec_l1Cur_chances.rs)) (a0 : List (List Int)) (a1 : List (List Int)) (a2 : List Int) (a3 : Int) (a4 : Int) : run (spec_l1Cur_chances.E k) R 4000 true [.code (bodyOf Tryz.f19)] (stA (spec_l1Cur_chances.E k) [.v (.list (.list (.int .i64))) a0, .v (.list (.list (.int .i64))) a1, .v (.list (.int .u8)) a2, .v (.int .i64) a3, .v (.int .u64) a4]) = spec_l1Cur_chances.B k (fun x6 x7 x0_0 x0_1 x0_2 x3_0 x3_1 x4_0 x4_1 x5_0 x5_1 => R spec_l1Cur_chances.S4 (spec_l1Cur_chances.m4 x6 x7 x0_0 x0_1 x0_2 x3_0 x3_1 x4_0 x4_1 x5_0 x5_1)) (fun x6 x7 x0_0 x0_1 x0_2 x3_0 x3_1 x4_0 x4_1 x5_0 x5_1 x8 => R spec_l1Cur_chances.S7 (spec_l1Cur_chances.m7 x6 x7 x0_0 x0_1 x0_2 x3_0 x3_1 x4_0 x4_1 x5_0 x5_1 x8)) a0 a1 a2 a3 a4 := by kernel_rfl
theorem spec_l1Cur_chances.eok (k : Nat) : EOk Tryz.prog (spec_l1Cur_chances.E k) Tryz.f19 :=
  ⟨Tryz.func19, Tryz.ntmps19, by kernel_rfl, tab_ok, mixed, cuts_of (by kernel_rfl), Tab.ok (.cons (spec_l1Cur_among.ok) (by kernel_rfl) (.cons (spec_l1Cur_pick.ok) (by kernel_rfl) (.cons (spec_l1Cur_weights11.ok k) (by kernel_rfl) (.cons (spec_l1Own.ok) (by kernel_rfl) (.cons (spec_l1Most.ok) (by kernel_rfl) (.cons (spec_l1Cur_one.ok) (by kernel_rfl) (.cons (spec_l4With.ok) (by kernel_rfl) .nil))))))), by kernel_rfl⟩
theorem spec_l1Cur_chances.ff (k : Nat) : ∀ n : Nat, ((fun x6 x7 x0_0 x0_1 x0_2 x3_0 x3_1 x4_0 x4_1 x5_0 x5_1 => FF (spec_l1Cur_chances.E k) n spec_l1Cur_chances.S4 (spec_l1Cur_chances.m4 x6 x7 x0_0 x0_1 x0_2 x3_0 x3_1 x4_0 x4_1 x5_0 x5_1)), (fun x6 x7 x0_0 x0_1 x0_2 x3_0 x3_1 x4_0 x4_1 x5_0 x5_1 x8 => FF (spec_l1Cur_chances.E k) n spec_l1Cur_chances.S7 (spec_l1Cur_chances.m7 x6 x7 x0_0 x0_1 x0_2 x3_0 x3_1 x4_0 x4_1 x5_0 x5_1 x8))) = spec_l1Cur_chances.bs k n
  | 0 => rfl
  | n + 1 => by
    show ((fun x6 x7 x0_0 x0_1 x0_2 x3_0 x3_1 x4_0 x4_1 x5_0 x5_1 => FF (spec_l1Cur_chances.E k) (n + 1) spec_l1Cur_chances.S4 (spec_l1Cur_chances.m4 x6 x7 x0_0 x0_1 x0_2 x3_0 x3_1 x4_0 x4_1 x5_0 x5_1)), (fun x6 x7 x0_0 x0_1 x0_2 x3_0 x3_1 x4_0 x4_1 x5_0 x5_1 x8 => FF (spec_l1Cur_chances.E k) (n + 1) spec_l1Cur_chances.S7 (spec_l1Cur_chances.m7 x6 x7 x0_0 x0_1 x0_2 x3_0 x3_1 x4_0 x4_1 x5_0 x5_1 x8))) = (spec_l1Cur_chances.B4 k ((spec_l1Cur_chances.bs k n).1) ((spec_l1Cur_chances.bs k n).2), spec_l1Cur_chances.B7 k ((spec_l1Cur_chances.bs k n).1) ((spec_l1Cur_chances.bs k n).2))
    rw [← spec_l1Cur_chances.ff k n]
    exact (Prod.ext (funext fun x6 => funext fun x7 => funext fun x0_0 => funext fun x0_1 => funext fun x0_2 => funext fun x3_0 => funext fun x3_1 => funext fun x4_0 => funext fun x4_1 => funext fun x5_0 => funext fun x5_1 => by dsimp only; exact (FF_succ ..).trans (spec_l1Cur_chances.h4 k (fun t s => FF (spec_l1Cur_chances.E k) n t s) x6 x7 x0_0 x0_1 x0_2 x3_0 x3_1 x4_0 x4_1 x5_0 x5_1)) (funext fun x6 => funext fun x7 => funext fun x0_0 => funext fun x0_1 => funext fun x0_2 => funext fun x3_0 => funext fun x3_1 => funext fun x4_0 => funext fun x4_1 => funext fun x5_0 => funext fun x5_1 => funext fun x8 => by dsimp only; exact (FF_succ ..).trans (spec_l1Cur_chances.h7 k (fun t s => FF (spec_l1Cur_chances.E k) n t s) x6 x7 x0_0 x0_1 x0_2 x3_0 x3_1 x4_0 x4_1 x5_0 x5_1 x8)))
theorem spec_l1Cur_chances.run (k : Nat) (a0 : List (List Int)) (a1 : List (List Int)) (a2 : List Int) (a3 : Int) (a4 : Int): FF (spec_l1Cur_chances.E k) (k + 1) [.code (bodyOf Tryz.f19)] (stA (spec_l1Cur_chances.E k) [.v (.list (.list (.int .i64))) a0, .v (.list (.list (.int .i64))) a1, .v (.list (.int .u8)) a2, .v (.int .i64) a3, .v (.int .u64) a4]) = spec_l1Cur_chances.f k a0 a1 a2 a3 a4 :=
  (FF_succ ..).trans ((spec_l1Cur_chances.h k (fun t s => FF (spec_l1Cur_chances.E k) k t s) a0 a1 a2 a3 a4).trans (by
    show _ = spec_l1Cur_chances.B k ((spec_l1Cur_chances.bs k k).1) ((spec_l1Cur_chances.bs k k).2) a0 a1 a2 a3 a4
    rw [← spec_l1Cur_chances.ff k k]))
theorem spec_l1Cur_chances.ok (k : Nat) : FnOK Tryz.prog spec_l1Cur_chances.ent spec_l1Cur_chances.ts spec_l1Cur_chances.rs fun a => spec_l1Cur_chances.f k a.1 a.2.1 a.2.2.1 a.2.2.2.1 a.2.2.2.2 :=
  ⟨hasBody_of Tryz.func19 (by kernel_rfl), by kernel_rfl, by kernel_rfl, fun a r hr => good_of (E := (spec_l1Cur_chances.E k)) (k := (k + 1)) (xs := encL spec_l1Cur_chances.ts a) (spec_l1Cur_chances.eok k) (body := (bodyOf Tryz.f19)) (by kernel_rfl) (by kernel_rfl) ((spec_l1Cur_chances.run k a.1 a.2.1 a.2.2.1 a.2.2.2.1 a.2.2.2.2).trans hr)⟩

def spec_DrawIsChances.B (k : Nat) (a0 : List Int) : Option (List (List Int) × List (List Int) × List Int × List (List Int)) :=
  (spec_l1Cur_problem.f k a0 0 0).bind fun t1 => ((spec_l1Cur_chances.f k t1.2.2.2.2 t1.1 t1.2.1 t1.2.2.1 t1.2.2.2.1).bind fun t2 => some (t1.2.2.2.2, t1.1, t2.2.2.2.1, t2.2.2.2.2))
def spec_DrawIsChances.f (k : Nat) (a0 : List Int) : Option (List (List Int) × List (List Int) × List Int × List (List Int)) := spec_DrawIsChances.B k a0
def spec_DrawIsChances.ent : Ent := ⟨5, [.h (.list (.int .u8))], [], .tup [.agg [.h (.list (.list (.int .i64))), .h (.list (.list (.int .i64)))], .agg [.own 0 (.int .i64), .own 1 (.list (.int .i64))]], [.buf (.int .i64), .buf (.list (.int .i64))], 17⟩
abbrev spec_DrawIsChances.ts : List Ty := [.list (.int .u8)]
abbrev spec_DrawIsChances.rs : List Ty := [.list (.list (.int .i64)), .list (.list (.int .i64)), .list (.int .i64), .list (.list (.int .i64))]
noncomputable def spec_DrawIsChances.E (k : Nat) : Env :=
  ⟨tab, 15, spec_DrawIsChances.ent, spec_DrawIsChances.rs, [spec_l1Cur_problem.ent, spec_l1Cur_chances.ent], ctOf [(12, mkF spec_l1Cur_problem.ts spec_l1Cur_problem.rs fun a => spec_l1Cur_problem.f k a.1 a.2.1 a.2.2),
    (16, mkF spec_l1Cur_chances.ts spec_l1Cur_chances.rs fun a => spec_l1Cur_chances.f k a.1 a.2.1 a.2.2.1 a.2.2.2.1 a.2.2.2.2)], [], [.cell 2 26, .cell 3 29]⟩
theorem spec_DrawIsChances.h (k : Nat) (R : List Item → St → Option (PD spec_DrawIsChances.rs)) (a0 : List Int) : run (spec_DrawIsChances.E k) R 4000 true [.code (bodyOf Tryz.f5)] (stA (spec_DrawIsChances.E k) [.v (.list (.int .u8)) a0]) = spec_DrawIsChances.B k a0 := by kernel_rfl
theorem spec_DrawIsChances.eok (k : Nat) : EOk Tryz.prog (spec_DrawIsChances.E k) Tryz.f5 :=
  ⟨Tryz.func5, Tryz.ntmps5, by kernel_rfl, tab_ok, mixed, cuts_of (by kernel_rfl), Tab.ok (.cons (spec_l1Cur_problem.ok k) (by kernel_rfl) (.cons (spec_l1Cur_chances.ok k) (by kernel_rfl) .nil)), by kernel_rfl⟩
theorem spec_DrawIsChances.run (k : Nat) (a0 : List Int): FF (spec_DrawIsChances.E k) 1 [.code (bodyOf Tryz.f5)] (stA (spec_DrawIsChances.E k) [.v (.list (.int .u8)) a0]) = spec_DrawIsChances.f k a0 :=
  (FF_succ ..).trans (spec_DrawIsChances.h k (fun t s => FF (spec_DrawIsChances.E k) 0 t s) a0)
theorem spec_DrawIsChances.ok (k : Nat) : FnOK Tryz.prog spec_DrawIsChances.ent spec_DrawIsChances.ts spec_DrawIsChances.rs fun a => spec_DrawIsChances.f k a :=
  ⟨hasBody_of Tryz.func5 (by kernel_rfl), by kernel_rfl, by kernel_rfl, fun a r hr => good_of (E := (spec_DrawIsChances.E k)) (k := 1) (xs := encL spec_DrawIsChances.ts a) (spec_DrawIsChances.eok k) (body := (bodyOf Tryz.f5)) (by kernel_rfl) (by kernel_rfl) ((spec_DrawIsChances.run k a).trans hr)⟩

def impl_within.B (a0 : Int) (a1 : Int) (a2 : Int) : Option (Bool) :=
  bif decide (a1 ≤ a0) then some (decide (a0 ≤ a2)) else some false
def impl_within.f (a0 : Int) (a1 : Int) (a2 : Int) : Option (Bool) := impl_within.B a0 a1 a2
def impl_within.ent : Ent := ⟨56, [.h (.int .i64), .h (.int .i64), .h (.int .i64)], [], .h (.bool), [], 18⟩
abbrev impl_within.ts : List Ty := [.int .i64, .int .i64, .int .i64]
abbrev impl_within.rs : List Ty := [.bool]
noncomputable def impl_within.E : Env :=
  ⟨tab, 15, impl_within.ent, impl_within.rs, [], ctOf [], [], [.tmp 6]⟩
theorem impl_within.h (R : List Item → St → Option (PD impl_within.rs)) (a0 : Int) (a1 : Int) (a2 : Int) : run (impl_within.E) R 4000 true [.code (bodyOf Tryz.f56)] (stA (impl_within.E) [.v (.int .i64) a0, .v (.int .i64) a1, .v (.int .i64) a2]) = impl_within.B a0 a1 a2 := by kernel_rfl
theorem impl_within.eok : EOk Tryz.prog (impl_within.E) Tryz.f56 :=
  ⟨Tryz.func56, Tryz.ntmps56, by kernel_rfl, tab_ok, mixed, cuts_of (by kernel_rfl), Tab.ok .nil, by kernel_rfl⟩
theorem impl_within.run (a0 : Int) (a1 : Int) (a2 : Int): FF (impl_within.E) 1 [.code (bodyOf Tryz.f56)] (stA (impl_within.E) [.v (.int .i64) a0, .v (.int .i64) a1, .v (.int .i64) a2]) = impl_within.f a0 a1 a2 :=
  (FF_succ ..).trans (impl_within.h (fun t s => FF (impl_within.E) 0 t s) a0 a1 a2)
theorem impl_within.ok : FnOK Tryz.prog impl_within.ent impl_within.ts impl_within.rs fun a => impl_within.f a.1 a.2.1 a.2.2 :=
  ⟨hasBody_of Tryz.func56 (by kernel_rfl), by kernel_rfl, by kernel_rfl, fun a r hr => good_of (E := (impl_within.E)) (k := 1) (xs := encL impl_within.ts a) (impl_within.eok) (body := (bodyOf Tryz.f56)) (by kernel_rfl) (by kernel_rfl) ((impl_within.run a.1 a.2.1 a.2.2).trans hr)⟩

def impl_Problem_metric.B (a0 : List (List Int)) (a1 : List (List Int)) : Option (List (List Int)) :=
  some a0
def impl_Problem_metric.f (a0 : List (List Int)) (a1 : List (List Int)) : Option (List (List Int)) := impl_Problem_metric.B a0 a1
def impl_Problem_metric.ent : Ent := ⟨58, [.agg [.h (.list (.list (.int .i64))), .h (.list (.list (.int .i64)))]], [], .agg [.h (.list (.list (.int .i64)))], [], 19⟩
abbrev impl_Problem_metric.ts : List Ty := [.list (.list (.int .i64)), .list (.list (.int .i64))]
abbrev impl_Problem_metric.rs : List Ty := [.list (.list (.int .i64))]
noncomputable def impl_Problem_metric.E : Env :=
  ⟨tab, 6, impl_Problem_metric.ent, impl_Problem_metric.rs, [], ctOf [], [], [.cell 2 72]⟩
theorem impl_Problem_metric.h (R : List Item → St → Option (PD impl_Problem_metric.rs)) (a0 : List (List Int)) (a1 : List (List Int)) : run (impl_Problem_metric.E) R 4000 true [.code (bodyOf Tryz.f58)] (stA (impl_Problem_metric.E) [.v (.list (.list (.int .i64))) a0, .v (.list (.list (.int .i64))) a1]) = impl_Problem_metric.B a0 a1 := by kernel_rfl
theorem impl_Problem_metric.eok : EOk Tryz.prog (impl_Problem_metric.E) Tryz.f58 :=
  ⟨Tryz.func58, Tryz.ntmps58, by kernel_rfl, tab_ok, mixed, cuts_of (by kernel_rfl), Tab.ok .nil, by kernel_rfl⟩
theorem impl_Problem_metric.run (a0 : List (List Int)) (a1 : List (List Int)): FF (impl_Problem_metric.E) 1 [.code (bodyOf Tryz.f58)] (stA (impl_Problem_metric.E) [.v (.list (.list (.int .i64))) a0, .v (.list (.list (.int .i64))) a1]) = impl_Problem_metric.f a0 a1 :=
  (FF_succ ..).trans (impl_Problem_metric.h (fun t s => FF (impl_Problem_metric.E) 0 t s) a0 a1)
theorem impl_Problem_metric.ok : FnOK Tryz.prog impl_Problem_metric.ent impl_Problem_metric.ts impl_Problem_metric.rs fun a => impl_Problem_metric.f a.1 a.2 :=
  ⟨hasBody_of Tryz.func58 (by kernel_rfl), by kernel_rfl, by kernel_rfl, fun a r hr => good_of (E := (impl_Problem_metric.E)) (k := 1) (xs := encL impl_Problem_metric.ts a) (impl_Problem_metric.eok) (body := (bodyOf Tryz.f58)) (by kernel_rfl) (by kernel_rfl) ((impl_Problem_metric.run a.1 a.2).trans hr)⟩

def impl_Metric_isTable_1.B (a0 : List Int) (a1 : Int) : Option (Bool) :=
  some (!decide ((a0.length : Int) = a1))
def impl_Metric_isTable_1.f (a0 : List Int) (a1 : Int) : Option (Bool) := impl_Metric_isTable_1.B a0 a1
def impl_Metric_isTable_1.ent : Ent := ⟨107, [.h (.list (.int .i64)), .rp [.h (.int .i64)]], [], .h (.bool), [], 20⟩
abbrev impl_Metric_isTable_1.ts : List Ty := [.list (.int .i64), .int .i64]
abbrev impl_Metric_isTable_1.rs : List Ty := [.bool]
noncomputable def impl_Metric_isTable_1.E : Env :=
  ⟨tab, 8, impl_Metric_isTable_1.ent, impl_Metric_isTable_1.rs, [], ctOf [], [], [.tmp 3]⟩
theorem impl_Metric_isTable_1.h (R : List Item → St → Option (PD impl_Metric_isTable_1.rs)) (a0 : List Int) (a1 : Int) : run (impl_Metric_isTable_1.E) R 4000 true [.code (bodyOf Tryz.f107)] (stA (impl_Metric_isTable_1.E) [.v (.list (.int .i64)) a0, .v (.int .i64) a1]) = impl_Metric_isTable_1.B a0 a1 := by kernel_rfl
theorem impl_Metric_isTable_1.eok : EOk Tryz.prog (impl_Metric_isTable_1.E) Tryz.f107 :=
  ⟨Tryz.func107, Tryz.ntmps107, by kernel_rfl, tab_ok, mixed, cuts_of (by kernel_rfl), Tab.ok .nil, by kernel_rfl⟩
theorem impl_Metric_isTable_1.run (a0 : List Int) (a1 : Int): FF (impl_Metric_isTable_1.E) 1 [.code (bodyOf Tryz.f107)] (stA (impl_Metric_isTable_1.E) [.v (.list (.int .i64)) a0, .v (.int .i64) a1]) = impl_Metric_isTable_1.f a0 a1 :=
  (FF_succ ..).trans (impl_Metric_isTable_1.h (fun t s => FF (impl_Metric_isTable_1.E) 0 t s) a0 a1)
theorem impl_Metric_isTable_1.ok : FnOK Tryz.prog impl_Metric_isTable_1.ent impl_Metric_isTable_1.ts impl_Metric_isTable_1.rs fun a => impl_Metric_isTable_1.f a.1 a.2 :=
  ⟨hasBody_of Tryz.func107 (by kernel_rfl), by kernel_rfl, by kernel_rfl, fun a r hr => good_of (E := (impl_Metric_isTable_1.E)) (k := 1) (xs := encL impl_Metric_isTable_1.ts a) (impl_Metric_isTable_1.eok) (body := (bodyOf Tryz.f107)) (by kernel_rfl) (by kernel_rfl) ((impl_Metric_isTable_1.run a.1 a.2).trans hr)⟩

def slices_IndexFunc_at_Metric_isTable_1.B2 (k : Nat) (r2 : List (List Int) → Int → Int → Int → Option (Int)) (x0 : List (List Int)) (x1_0_0 : Int) (x7 : Int) (x8 : Int) : Option (Int) :=
  bif decide (x8 < x7) then (if (0 : Int) ≤ x8 ∧ x8 < (x0.length : Int) then ((impl_Metric_isTable_1.f (x0.getD x8.toNat []) x1_0_0).bind fun t1 => (bif t1 then some x8 else (r2 x0 x1_0_0 x7 (w64 (x8 + 1))))) else none) else some (-1)
def slices_IndexFunc_at_Metric_isTable_1.B (k : Nat) (r2 : List (List Int) → Int → Int → Int → Option (Int)) (a0 : List (List Int)) (a1 : Int) : Option (Int) :=
  r2 a0 a1 (a0.length : Int) 0
def slices_IndexFunc_at_Metric_isTable_1.bs (k : Nat) : Nat → (List (List Int) → Int → Int → Int → Option (Int))
  | 0 => (fun _ _ _ _ => none)
  | n + 1 => (slices_IndexFunc_at_Metric_isTable_1.B2 k ((slices_IndexFunc_at_Metric_isTable_1.bs k n)))
def slices_IndexFunc_at_Metric_isTable_1.f (k : Nat) (a0 : List (List Int)) (a1 : Int) : Option (Int) := slices_IndexFunc_at_Metric_isTable_1.B k ((slices_IndexFunc_at_Metric_isTable_1.bs k k)) a0 a1
def slices_IndexFunc_at_Metric_isTable_1.ent : Ent := ⟨96, [.h (.list (.list (.int .i64))), .fn 107 [] [.rp [.h (.int .i64)]]], [], .h (.int .i64), [], 21⟩
abbrev slices_IndexFunc_at_Metric_isTable_1.ts : List Ty := [.list (.list (.int .i64)), .int .i64]
abbrev slices_IndexFunc_at_Metric_isTable_1.rs : List Ty := [.int .i64]
def slices_IndexFunc_at_Metric_isTable_1.c2 : Cut := ⟨2, [(0, .h (.list (.list (.int .i64)))), (1, .fn 107 [] [.rp [.h (.int .i64)]]), (7, .h (.int .i64)), (8, .h (.int .i64))], []⟩
noncomputable def slices_IndexFunc_at_Metric_isTable_1.E (k : Nat) : Env :=
  ⟨tab, 19, slices_IndexFunc_at_Metric_isTable_1.ent, slices_IndexFunc_at_Metric_isTable_1.rs, [impl_Metric_isTable_1.ent], ctOf [(20, mkF impl_Metric_isTable_1.ts impl_Metric_isTable_1.rs fun a => impl_Metric_isTable_1.f a.1 a.2)], [slices_IndexFunc_at_Metric_isTable_1.c2], [.tmp 4]⟩
noncomputable def slices_IndexFunc_at_Metric_isTable_1.S2 : List Item := stk (bodyOf Tryz.f96) 2
noncomputable def slices_IndexFunc_at_Metric_isTable_1.m2 (x0 : List (List Int)) (x1_0_0 : Int) (x7 : Int) (x8 : Int) : St := mkS slices_IndexFunc_at_Metric_isTable_1.c2 [.v (.list (.list (.int .i64))) x0, .v (.int .i64) x1_0_0, .v (.int .i64) x7, .v (.int .i64) x8]
theorem slices_IndexFunc_at_Metric_isTable_1.h2 (k : Nat) (R : List Item → St → Option (PD slices_IndexFunc_at_Metric_isTable_1.rs)) (x0 : List (List Int)) (x1_0_0 : Int) (x7 : Int) (x8 : Int) : run (slices_IndexFunc_at_Metric_isTable_1.E k) R 4000 true slices_IndexFunc_at_Metric_isTable_1.S2 (slices_IndexFunc_at_Metric_isTable_1.m2 x0 x1_0_0 x7 x8) = slices_IndexFunc_at_Metric_isTable_1.B2 k (fun x0 x1_0_0 x7 x8 => R slices_IndexFunc_at_Metric_isTable_1.S2 (slices_IndexFunc_at_Metric_isTable_1.m2 x0 x1_0_0 x7 x8)) x0 x1_0_0 x7 x8 := by kernel_rfl
theorem slices_IndexFunc_at_Metric_isTable_1.h (k : Nat) (R : List Item → St → Option (PD slices_IndexFunc_at_Metric_isTable_1.rs)) (a0 : List (List Int)) (a1 : Int) : run (slices_IndexFunc_at_Metric_isTable_1.E k) R 4000 true [.code (bodyOf Tryz.f96)] (stA (slices_IndexFunc_at_Metric_isTable_1.E k) [.v (.list (.list (.int .i64))) a0, .v (.int .i64) a1]) = slices_IndexFunc_at_Metric_isTable_1.B k (fun x0 x1_0_0 x7 x8 => R slices_IndexFunc_at_Metric_isTable_1.S2 (slices_IndexFunc_at_Metric_isTable_1.m2 x0 x1_0_0 x7 x8)) a0 a1 := by kernel_rfl
theorem slices_IndexFunc_at_Metric_isTable_1.eok (k : Nat) : EOk Tryz.prog (slices_IndexFunc_at_Metric_isTable_1.E k) Tryz.f96 :=
  ⟨Tryz.func96, Tryz.ntmps96, by kernel_rfl, tab_ok, mixed, cuts_of (by kernel_rfl), Tab.ok (.cons (impl_Metric_isTable_1.ok) (by kernel_rfl) .nil), by kernel_rfl⟩
theorem slices_IndexFunc_at_Metric_isTable_1.ff (k : Nat) : ∀ n : Nat, (fun x0 x1_0_0 x7 x8 => FF (slices_IndexFunc_at_Metric_isTable_1.E k) n slices_IndexFunc_at_Metric_isTable_1.S2 (slices_IndexFunc_at_Metric_isTable_1.m2 x0 x1_0_0 x7 x8)) = slices_IndexFunc_at_Metric_isTable_1.bs k n
  | 0 => rfl
  | n + 1 => by
    show (fun x0 x1_0_0 x7 x8 => FF (slices_IndexFunc_at_Metric_isTable_1.E k) (n + 1) slices_IndexFunc_at_Metric_isTable_1.S2 (slices_IndexFunc_at_Metric_isTable_1.m2 x0 x1_0_0 x7 x8)) = (slices_IndexFunc_at_Metric_isTable_1.B2 k ((slices_IndexFunc_at_Metric_isTable_1.bs k n)))
    rw [← slices_IndexFunc_at_Metric_isTable_1.ff k n]
    exact (funext fun x0 => funext fun x1_0_0 => funext fun x7 => funext fun x8 => (FF_succ ..).trans (slices_IndexFunc_at_Metric_isTable_1.h2 k (fun t s => FF (slices_IndexFunc_at_Metric_isTable_1.E k) n t s) x0 x1_0_0 x7 x8))
theorem slices_IndexFunc_at_Metric_isTable_1.run (k : Nat) (a0 : List (List Int)) (a1 : Int): FF (slices_IndexFunc_at_Metric_isTable_1.E k) (k + 1) [.code (bodyOf Tryz.f96)] (stA (slices_IndexFunc_at_Metric_isTable_1.E k) [.v (.list (.list (.int .i64))) a0, .v (.int .i64) a1]) = slices_IndexFunc_at_Metric_isTable_1.f k a0 a1 :=
  (FF_succ ..).trans ((slices_IndexFunc_at_Metric_isTable_1.h k (fun t s => FF (slices_IndexFunc_at_Metric_isTable_1.E k) k t s) a0 a1).trans (by
    show _ = slices_IndexFunc_at_Metric_isTable_1.B k ((slices_IndexFunc_at_Metric_isTable_1.bs k k)) a0 a1
    rw [← slices_IndexFunc_at_Metric_isTable_1.ff k k]))
theorem slices_IndexFunc_at_Metric_isTable_1.ok (k : Nat) : FnOK Tryz.prog slices_IndexFunc_at_Metric_isTable_1.ent slices_IndexFunc_at_Metric_isTable_1.ts slices_IndexFunc_at_Metric_isTable_1.rs fun a => slices_IndexFunc_at_Metric_isTable_1.f k a.1 a.2 :=
  ⟨hasBody_of Tryz.func96 (by kernel_rfl), by kernel_rfl, by kernel_rfl, fun a r hr => good_of (E := (slices_IndexFunc_at_Metric_isTable_1.E k)) (k := (k + 1)) (xs := encL slices_IndexFunc_at_Metric_isTable_1.ts a) (slices_IndexFunc_at_Metric_isTable_1.eok k) (body := (bodyOf Tryz.f96)) (by kernel_rfl) (by kernel_rfl) ((slices_IndexFunc_at_Metric_isTable_1.run k a.1 a.2).trans hr)⟩

def slices_ContainsFunc_at_Metric_isTable_1.B (k : Nat) (a0 : List (List Int)) (a1 : Int) : Option (Bool) :=
  (slices_IndexFunc_at_Metric_isTable_1.f k a0 a1).bind fun t1 => some (decide ((0 : Int) ≤ t1))
def slices_ContainsFunc_at_Metric_isTable_1.f (k : Nat) (a0 : List (List Int)) (a1 : Int) : Option (Bool) := slices_ContainsFunc_at_Metric_isTable_1.B k a0 a1
def slices_ContainsFunc_at_Metric_isTable_1.ent : Ent := ⟨59, [.h (.list (.list (.int .i64))), .fn 107 [] [.rp [.h (.int .i64)]]], [], .h (.bool), [], 22⟩
abbrev slices_ContainsFunc_at_Metric_isTable_1.ts : List Ty := [.list (.list (.int .i64)), .int .i64]
abbrev slices_ContainsFunc_at_Metric_isTable_1.rs : List Ty := [.bool]
noncomputable def slices_ContainsFunc_at_Metric_isTable_1.E (k : Nat) : Env :=
  ⟨tab, 9, slices_ContainsFunc_at_Metric_isTable_1.ent, slices_ContainsFunc_at_Metric_isTable_1.rs, [slices_IndexFunc_at_Metric_isTable_1.ent], ctOf [(21, mkF slices_IndexFunc_at_Metric_isTable_1.ts slices_IndexFunc_at_Metric_isTable_1.rs fun a => slices_IndexFunc_at_Metric_isTable_1.f k a.1 a.2)], [], [.tmp 4]⟩
theorem slices_ContainsFunc_at_Metric_isTable_1.h (k : Nat) (R : List Item → St → Option (PD slices_ContainsFunc_at_Metric_isTable_1.rs)) (a0 : List (List Int)) (a1 : Int) : run (slices_ContainsFunc_at_Metric_isTable_1.E k) R 4000 true [.code (bodyOf Tryz.f59)] (stA (slices_ContainsFunc_at_Metric_isTable_1.E k) [.v (.list (.list (.int .i64))) a0, .v (.int .i64) a1]) = slices_ContainsFunc_at_Metric_isTable_1.B k a0 a1 := by kernel_rfl
theorem slices_ContainsFunc_at_Metric_isTable_1.eok (k : Nat) : EOk Tryz.prog (slices_ContainsFunc_at_Metric_isTable_1.E k) Tryz.f59 :=
  ⟨Tryz.func59, Tryz.ntmps59, by kernel_rfl, tab_ok, mixed, cuts_of (by kernel_rfl), Tab.ok (.cons (slices_IndexFunc_at_Metric_isTable_1.ok k) (by kernel_rfl) .nil), by kernel_rfl⟩
theorem slices_ContainsFunc_at_Metric_isTable_1.run (k : Nat) (a0 : List (List Int)) (a1 : Int): FF (slices_ContainsFunc_at_Metric_isTable_1.E k) 1 [.code (bodyOf Tryz.f59)] (stA (slices_ContainsFunc_at_Metric_isTable_1.E k) [.v (.list (.list (.int .i64))) a0, .v (.int .i64) a1]) = slices_ContainsFunc_at_Metric_isTable_1.f k a0 a1 :=
  (FF_succ ..).trans (slices_ContainsFunc_at_Metric_isTable_1.h k (fun t s => FF (slices_ContainsFunc_at_Metric_isTable_1.E k) 0 t s) a0 a1)
theorem slices_ContainsFunc_at_Metric_isTable_1.ok (k : Nat) : FnOK Tryz.prog slices_ContainsFunc_at_Metric_isTable_1.ent slices_ContainsFunc_at_Metric_isTable_1.ts slices_ContainsFunc_at_Metric_isTable_1.rs fun a => slices_ContainsFunc_at_Metric_isTable_1.f k a.1 a.2 :=
  ⟨hasBody_of Tryz.func59 (by kernel_rfl), by kernel_rfl, by kernel_rfl, fun a r hr => good_of (E := (slices_ContainsFunc_at_Metric_isTable_1.E k)) (k := 1) (xs := encL slices_ContainsFunc_at_Metric_isTable_1.ts a) (slices_ContainsFunc_at_Metric_isTable_1.eok k) (body := (bodyOf Tryz.f59)) (by kernel_rfl) (by kernel_rfl) ((slices_ContainsFunc_at_Metric_isTable_1.run k a.1 a.2).trans hr)⟩

def impl_Metric_isTable.B5 (k : Nat) (r5 : Bool → Int → Int → List (List Int) → Option (Bool)) (r8 : Bool → Int → Int → Int → List Int → Int → Int → List (List Int) → Option (Bool)) (x1 : Bool) (x21 : Int) (x22 : Int) (x2_0 : List (List Int)) : Option (Bool) :=
  bif decide (x22 < x21) then (if (0 : Int) ≤ x22 ∧ x22 < (x2_0.length : Int) then (r8 x1 x22 x21 x22 (x2_0.getD x22.toNat []) ((x2_0.getD x22.toNat []).length : Int) 0 x2_0) else none) else some true
def impl_Metric_isTable.B8 (k : Nat) (r5 : Bool → Int → Int → List (List Int) → Option (Bool)) (r8 : Bool → Int → Int → Int → List Int → Int → Int → List (List Int) → Option (Bool)) (x1 : Bool) (x6 : Int) (x21 : Int) (x22 : Int) (x29 : List Int) (x30 : Int) (x31 : Int) (x2_0 : List (List Int)) : Option (Bool) :=
  bif decide (x31 < x30) then (if (0 : Int) ≤ x31 ∧ x31 < (x29.length : Int) then (bif decide (x6 = x31) then (bif !decide (x29.getD x31.toNat 0 = (0 : Int)) then (bif !decide (x29.getD x31.toNat 0 = (0 : Int)) then some false else (bif !decide (x6 = x31) then (bif decide (x29.getD x31.toNat 0 < (1 : Int)) then (bif x1 then (bif !(decide (x29.getD x31.toNat 0 = ((-1) : Int))) then some false else (r8 x1 x6 x21 x22 x29 x30 (w64 (x31 + 1)) x2_0)) else some false) else (r8 x1 x6 x21 x22 x29 x30 (w64 (x31 + 1)) x2_0)) else (r8 x1 x6 x21 x22 x29 x30 (w64 (x31 + 1)) x2_0))) else (if (0 : Int) ≤ x31 ∧ x31 < (x2_0.length : Int) then (if (0 : Int) ≤ x6 ∧ x6 < ((x2_0.getD x31.toNat []).length : Int) then (bif !decide (x29.getD x31.toNat 0 = (x2_0.getD x31.toNat []).getD x6.toNat 0) then (bif !decide (x29.getD x31.toNat 0 = (x2_0.getD x31.toNat []).getD x6.toNat 0) then some false else (bif !decide (x6 = x31) then (bif decide (x29.getD x31.toNat 0 < (1 : Int)) then (bif x1 then (bif !(decide (x29.getD x31.toNat 0 = ((-1) : Int))) then some false else (r8 x1 x6 x21 x22 x29 x30 (w64 (x31 + 1)) x2_0)) else some false) else (r8 x1 x6 x21 x22 x29 x30 (w64 (x31 + 1)) x2_0)) else (r8 x1 x6 x21 x22 x29 x30 (w64 (x31 + 1)) x2_0))) else (bif decide ((99 : Int) < x29.getD x31.toNat 0) then some false else (bif !decide (x6 = x31) then (bif decide (x29.getD x31.toNat 0 < (1 : Int)) then (bif x1 then (bif !(decide (x29.getD x31.toNat 0 = ((-1) : Int))) then some false else (r8 x1 x6 x21 x22 x29 x30 (w64 (x31 + 1)) x2_0)) else some false) else (r8 x1 x6 x21 x22 x29 x30 (w64 (x31 + 1)) x2_0)) else (r8 x1 x6 x21 x22 x29 x30 (w64 (x31 + 1)) x2_0)))) else none) else none)) else (if (0 : Int) ≤ x31 ∧ x31 < (x2_0.length : Int) then (if (0 : Int) ≤ x6 ∧ x6 < ((x2_0.getD x31.toNat []).length : Int) then (bif !decide (x29.getD x31.toNat 0 = (x2_0.getD x31.toNat []).getD x6.toNat 0) then (bif !decide (x29.getD x31.toNat 0 = (x2_0.getD x31.toNat []).getD x6.toNat 0) then some false else (bif !decide (x6 = x31) then (bif decide (x29.getD x31.toNat 0 < (1 : Int)) then (bif x1 then (bif !(decide (x29.getD x31.toNat 0 = ((-1) : Int))) then some false else (r8 x1 x6 x21 x22 x29 x30 (w64 (x31 + 1)) x2_0)) else some false) else (r8 x1 x6 x21 x22 x29 x30 (w64 (x31 + 1)) x2_0)) else (r8 x1 x6 x21 x22 x29 x30 (w64 (x31 + 1)) x2_0))) else (bif decide ((99 : Int) < x29.getD x31.toNat 0) then some false else (bif !decide (x6 = x31) then (bif decide (x29.getD x31.toNat 0 < (1 : Int)) then (bif x1 then (bif !(decide (x29.getD x31.toNat 0 = ((-1) : Int))) then some false else (r8 x1 x6 x21 x22 x29 x30 (w64 (x31 + 1)) x2_0)) else some false) else (r8 x1 x6 x21 x22 x29 x30 (w64 (x31 + 1)) x2_0)) else (r8 x1 x6 x21 x22 x29 x30 (w64 (x31 + 1)) x2_0)))) else none) else none)) else none) else (r5 x1 x21 (w64 (x22 + 1)) x2_0)
def impl_Metric_isTable.B (k : Nat) (r5 : Bool → Int → Int → List (List Int) → Option (Bool)) (r8 : Bool → Int → Int → Int → List Int → Int → Int → List (List Int) → Option (Bool)) (a0 : List (List Int)) (a1 : Bool) : Option (Bool) :=
  (impl_within.f (a0.length : Int) 1 6).bind fun t1 => (bif !t1 then some false else ((slices_ContainsFunc_at_Metric_isTable_1.f k a0 (a0.length : Int)).bind fun t2 => (bif t2 then some false else (r5 a1 (a0.length : Int) 0 a0))))
def impl_Metric_isTable.bs (k : Nat) : Nat → (Bool → Int → Int → List (List Int) → Option (Bool)) × (Bool → Int → Int → Int → List Int → Int → Int → List (List Int) → Option (Bool))
  | 0 => (fun _ _ _ _ => none, fun _ _ _ _ _ _ _ _ => none)
  | n + 1 => (impl_Metric_isTable.B5 k ((impl_Metric_isTable.bs k n).1) ((impl_Metric_isTable.bs k n).2), impl_Metric_isTable.B8 k ((impl_Metric_isTable.bs k n).1) ((impl_Metric_isTable.bs k n).2))
def impl_Metric_isTable.f (k : Nat) (a0 : List (List Int)) (a1 : Bool) : Option (Bool) := impl_Metric_isTable.B k ((impl_Metric_isTable.bs k k).1) ((impl_Metric_isTable.bs k k).2) a0 a1
def impl_Metric_isTable.ent : Ent := ⟨94, [.agg [.h (.list (.list (.int .i64)))], .h (.bool)], [], .h (.bool), [], 23⟩
abbrev impl_Metric_isTable.ts : List Ty := [.list (.list (.int .i64)), .bool]
abbrev impl_Metric_isTable.rs : List Ty := [.bool]
def impl_Metric_isTable.c5 : Cut := ⟨5, [(1, .h (.bool)), (2, .p 0), (21, .h (.int .i64)), (22, .h (.int .i64))], [.box [.h (.list (.list (.int .i64)))]]⟩
def impl_Metric_isTable.c8 : Cut := ⟨8, [(1, .h (.bool)), (2, .p 0), (6, .h (.int .i64)), (21, .h (.int .i64)), (22, .h (.int .i64)), (29, .h (.list (.int .i64))), (30, .h (.int .i64)), (31, .h (.int .i64))], [.box [.h (.list (.list (.int .i64)))]]⟩
noncomputable def impl_Metric_isTable.E (k : Nat) : Env :=
  ⟨tab, 74, impl_Metric_isTable.ent, impl_Metric_isTable.rs, [impl_within.ent, slices_ContainsFunc_at_Metric_isTable_1.ent], ctOf [(18, mkF impl_within.ts impl_within.rs fun a => impl_within.f a.1 a.2.1 a.2.2),
    (22, mkF slices_ContainsFunc_at_Metric_isTable_1.ts slices_ContainsFunc_at_Metric_isTable_1.rs fun a => slices_ContainsFunc_at_Metric_isTable_1.f k a.1 a.2)], [impl_Metric_isTable.c5, impl_Metric_isTable.c8], [.tmp 4]⟩
noncomputable def impl_Metric_isTable.S5 : List Item := stk (bodyOf Tryz.f94) 5
noncomputable def impl_Metric_isTable.m5 (x1 : Bool) (x21 : Int) (x22 : Int) (x2_0 : List (List Int)) : St := mkS impl_Metric_isTable.c5 [.v (.bool) x1, .v (.int .i64) x21, .v (.int .i64) x22, .v (.list (.list (.int .i64))) x2_0]
noncomputable def impl_Metric_isTable.S8 : List Item := stk (bodyOf Tryz.f94) 8
noncomputable def impl_Metric_isTable.m8 (x1 : Bool) (x6 : Int) (x21 : Int) (x22 : Int) (x29 : List Int) (x30 : Int) (x31 : Int) (x2_0 : List (List Int)) : St := mkS impl_Metric_isTable.c8 [.v (.bool) x1, .v (.int .i64) x6, .v (.int .i64) x21, .v (.int .i64) x22, .v (.list (.int .i64)) x29, .v (.int .i64) x30, .v (.int .i64) x31, .v (.list (.list (.int .i64))) x2_0]
theorem impl_Metric_isTable.h5 (k : Nat) (R : List Item → St → Option (PD impl_Metric_isTable.rs)) (x1 : Bool) (x21 : Int) (x22 : Int) (x2_0 : List (List Int)) : run (impl_Metric_isTable.E k) R 4000 true impl_Metric_isTable.S5 (impl_Metric_isTable.m5 x1 x21 x22 x2_0) = impl_Metric_isTable.B5 k (fun x1 x21 x22 x2_0 => R impl_Metric_isTable.S5 (impl_Metric_isTable.m5 x1 x21 x22 x2_0)) (fun x1 x6 x21 x22 x29 x30 x31 x2_0 => R impl_Metric_isTable.S8 (impl_Metric_isTable.m8 x1 x6 x21 x22 x29 x30 x31 x2_0)) x1 x21 x22 x2_0 := by kernel_rfl
theorem impl_Metric_isTable.h8 (k : Nat) (R : List Item → St → Option (PD impl_Metric_isTable.rs)) (x1 : Bool) (x6 : Int) (x21 : Int) (x22 : Int) (x29 : List Int) (x30 : Int) (x31 : Int) (x2_0 : List (List Int)) : run (impl_Metric_isTable.E k) R 4000 true impl_Metric_isTable.S8 (impl_Metric_isTable.m8 x1 x6 x21 x22 x29 x30 x31 x2_0) = impl_Metric_isTable.B8 k (fun x1 x21 x22 x2_0 => R impl_Metric_isTable.S5 (impl_Metric_isTable.m5 x1 x21 x22 x2_0)) (fun x1 x6 x21 x22 x29 x30 x31 x2_0 => R impl_Metric_isTable.S8 (impl_Metric_isTable.m8 x1 x6 x21 x22 x29 x30 x31 x2_0)) x1 x6 x21 x22 x29 x30 x31 x2_0 := by kernel_rfl
theorem impl_Metric_isTable.h (k : Nat) (R : List Item → St → Option (PD impl_Metric_isTable.rs)) (a0 : List (List Int)) (a1 : Bool) : run (impl_Metric_isTable.E k) R 4000 true [.code (bodyOf Tryz.f94)] (stA (impl_Metric_isTable.E k) [.v (.list (.list (.int .i64))) a0, .v (.bool) a1]) = impl_Metric_isTable.B k (fun x1 x21 x22 x2_0 => R impl_Metric_isTable.S5 (impl_Metric_isTable.m5 x1 x21 x22 x2_0)) (fun x1 x6 x21 x22 x29 x30 x31 x2_0 => R impl_Metric_isTable.S8 (impl_Metric_isTable.m8 x1 x6 x21 x22 x29 x30 x31 x2_0)) a0 a1 := by kernel_rfl
theorem impl_Metric_isTable.eok (k : Nat) : EOk Tryz.prog (impl_Metric_isTable.E k) Tryz.f94 :=
  ⟨Tryz.func94, Tryz.ntmps94, by kernel_rfl, tab_ok, mixed, cuts_of (by kernel_rfl), Tab.ok (.cons (impl_within.ok) (by kernel_rfl) (.cons (slices_ContainsFunc_at_Metric_isTable_1.ok k) (by kernel_rfl) .nil)), by kernel_rfl⟩
theorem impl_Metric_isTable.ff (k : Nat) : ∀ n : Nat, ((fun x1 x21 x22 x2_0 => FF (impl_Metric_isTable.E k) n impl_Metric_isTable.S5 (impl_Metric_isTable.m5 x1 x21 x22 x2_0)), (fun x1 x6 x21 x22 x29 x30 x31 x2_0 => FF (impl_Metric_isTable.E k) n impl_Metric_isTable.S8 (impl_Metric_isTable.m8 x1 x6 x21 x22 x29 x30 x31 x2_0))) = impl_Metric_isTable.bs k n
  | 0 => rfl
  | n + 1 => by
    show ((fun x1 x21 x22 x2_0 => FF (impl_Metric_isTable.E k) (n + 1) impl_Metric_isTable.S5 (impl_Metric_isTable.m5 x1 x21 x22 x2_0)), (fun x1 x6 x21 x22 x29 x30 x31 x2_0 => FF (impl_Metric_isTable.E k) (n + 1) impl_Metric_isTable.S8 (impl_Metric_isTable.m8 x1 x6 x21 x22 x29 x30 x31 x2_0))) = (impl_Metric_isTable.B5 k ((impl_Metric_isTable.bs k n).1) ((impl_Metric_isTable.bs k n).2), impl_Metric_isTable.B8 k ((impl_Metric_isTable.bs k n).1) ((impl_Metric_isTable.bs k n).2))
    rw [← impl_Metric_isTable.ff k n]
    exact (Prod.ext (funext fun x1 => funext fun x21 => funext fun x22 => funext fun x2_0 => by dsimp only; exact (FF_succ ..).trans (impl_Metric_isTable.h5 k (fun t s => FF (impl_Metric_isTable.E k) n t s) x1 x21 x22 x2_0)) (funext fun x1 => funext fun x6 => funext fun x21 => funext fun x22 => funext fun x29 => funext fun x30 => funext fun x31 => funext fun x2_0 => by dsimp only; exact (FF_succ ..).trans (impl_Metric_isTable.h8 k (fun t s => FF (impl_Metric_isTable.E k) n t s) x1 x6 x21 x22 x29 x30 x31 x2_0)))
theorem impl_Metric_isTable.run (k : Nat) (a0 : List (List Int)) (a1 : Bool): FF (impl_Metric_isTable.E k) (k + 1) [.code (bodyOf Tryz.f94)] (stA (impl_Metric_isTable.E k) [.v (.list (.list (.int .i64))) a0, .v (.bool) a1]) = impl_Metric_isTable.f k a0 a1 :=
  (FF_succ ..).trans ((impl_Metric_isTable.h k (fun t s => FF (impl_Metric_isTable.E k) k t s) a0 a1).trans (by
    show _ = impl_Metric_isTable.B k ((impl_Metric_isTable.bs k k).1) ((impl_Metric_isTable.bs k k).2) a0 a1
    rw [← impl_Metric_isTable.ff k k]))
theorem impl_Metric_isTable.ok (k : Nat) : FnOK Tryz.prog impl_Metric_isTable.ent impl_Metric_isTable.ts impl_Metric_isTable.rs fun a => impl_Metric_isTable.f k a.1 a.2 :=
  ⟨hasBody_of Tryz.func94 (by kernel_rfl), by kernel_rfl, by kernel_rfl, fun a r hr => good_of (E := (impl_Metric_isTable.E k)) (k := (k + 1)) (xs := encL impl_Metric_isTable.ts a) (impl_Metric_isTable.eok k) (body := (bodyOf Tryz.f94)) (by kernel_rfl) (by kernel_rfl) ((impl_Metric_isTable.run k a.1 a.2).trans hr)⟩

def impl_Metric_detour.B2 (k : Nat) (r2 : List (List Int) → Int → Int → List (List Int) → Option (Bool × List Int)) (r5 : Int → List Int → List (List Int) → Int → Int → List Int → Int → Int → List (List Int) → Option (Bool × List Int)) (r8 : Int → List Int → Int → Int → List (List Int) → Int → Int → List Int → Int → Int → Int → Int → List (List Int) → Option (Bool × List Int)) (x10 : List (List Int)) (x11 : Int) (x12 : Int) (x1_0 : List (List Int)) : Option (Bool × List Int) :=
  bif decide (x12 < x11) then (if (0 : Int) ≤ x12 ∧ x12 < (x10.length : Int) then (r5 x12 (x10.getD x12.toNat []) x10 x11 x12 (x10.getD x12.toNat []) ((x10.getD x12.toNat []).length : Int) 0 x1_0) else none) else some (false, [])
def impl_Metric_detour.B5 (k : Nat) (r2 : List (List Int) → Int → Int → List (List Int) → Option (Bool × List Int)) (r5 : Int → List Int → List (List Int) → Int → Int → List Int → Int → Int → List (List Int) → Option (Bool × List Int)) (r8 : Int → List Int → Int → Int → List (List Int) → Int → Int → List Int → Int → Int → Int → Int → List (List Int) → Option (Bool × List Int)) (x4 : Int) (x5 : List Int) (x10 : List (List Int)) (x11 : Int) (x12 : Int) (x17 : List Int) (x18 : Int) (x19 : Int) (x1_0 : List (List Int)) : Option (Bool × List Int) :=
  bif decide (x19 < x18) then (if (0 : Int) ≤ x19 ∧ x19 < (x17.length : Int) then (r8 x4 x5 x19 (x17.getD x19.toNat 0) x10 x11 x12 x17 x18 x19 (x1_0.length : Int) 0 x1_0) else none) else (r2 x10 x11 (w64 (x12 + 1)) x1_0)
def impl_Metric_detour.B8 (k : Nat) (r2 : List (List Int) → Int → Int → List (List Int) → Option (Bool × List Int)) (r5 : Int → List Int → List (List Int) → Int → Int → List Int → Int → Int → List (List Int) → Option (Bool × List Int)) (r8 : Int → List Int → Int → Int → List (List Int) → Int → Int → List Int → Int → Int → Int → Int → List (List Int) → Option (Bool × List Int)) (x4 : Int) (x5 : List Int) (x6 : Int) (x7 : Int) (x10 : List (List Int)) (x11 : Int) (x12 : Int) (x17 : List Int) (x18 : Int) (x19 : Int) (x26 : Int) (x27 : Int) (x1_0 : List (List Int)) : Option (Bool × List Int) :=
  bif decide (x27 < x26) then (if (0 : Int) ≤ x27 ∧ x27 < (x5.length : Int) then (if (0 : Int) ≤ x6 ∧ x6 < (x1_0.length : Int) then (if (0 : Int) ≤ x27 ∧ x27 < ((x1_0.getD x6.toNat []).length : Int) then (bif decide (w64 (x7 + ((x1_0.getD x6.toNat []).getD x27.toNat 0)) < x5.getD x27.toNat 0) then some (true, [x4, x6, x27]) else (r8 x4 x5 x6 x7 x10 x11 x12 x17 x18 x19 x26 (w64 (x27 + 1)) x1_0)) else none) else none) else none) else (r5 x4 x5 x10 x11 x12 x17 x18 (w64 (x19 + 1)) x1_0)
def impl_Metric_detour.B (k : Nat) (r2 : List (List Int) → Int → Int → List (List Int) → Option (Bool × List Int)) (r5 : Int → List Int → List (List Int) → Int → Int → List Int → Int → Int → List (List Int) → Option (Bool × List Int)) (r8 : Int → List Int → Int → Int → List (List Int) → Int → Int → List Int → Int → Int → Int → Int → List (List Int) → Option (Bool × List Int)) (a0 : List (List Int)) : Option (Bool × List Int) :=
  r2 a0 (a0.length : Int) 0 a0
def impl_Metric_detour.bs (k : Nat) : Nat → (List (List Int) → Int → Int → List (List Int) → Option (Bool × List Int)) × (Int → List Int → List (List Int) → Int → Int → List Int → Int → Int → List (List Int) → Option (Bool × List Int)) × (Int → List Int → Int → Int → List (List Int) → Int → Int → List Int → Int → Int → Int → Int → List (List Int) → Option (Bool × List Int))
  | 0 => (fun _ _ _ _ => none, fun _ _ _ _ _ _ _ _ _ => none, fun _ _ _ _ _ _ _ _ _ _ _ _ _ => none)
  | n + 1 => (impl_Metric_detour.B2 k ((impl_Metric_detour.bs k n).1) ((impl_Metric_detour.bs k n).2.1) ((impl_Metric_detour.bs k n).2.2), impl_Metric_detour.B5 k ((impl_Metric_detour.bs k n).1) ((impl_Metric_detour.bs k n).2.1) ((impl_Metric_detour.bs k n).2.2), impl_Metric_detour.B8 k ((impl_Metric_detour.bs k n).1) ((impl_Metric_detour.bs k n).2.1) ((impl_Metric_detour.bs k n).2.2))
def impl_Metric_detour.f (k : Nat) (a0 : List (List Int)) : Option (Bool × List Int) := impl_Metric_detour.B k ((impl_Metric_detour.bs k k).1) ((impl_Metric_detour.bs k k).2.1) ((impl_Metric_detour.bs k k).2.2) a0
def impl_Metric_detour.ent : Ent := ⟨95, [.agg [.h (.list (.list (.int .i64)))]], [], .tup [.own 0 (.int .i64), .h (.bool)], [.buf (.int .i64)], 24⟩
abbrev impl_Metric_detour.ts : List Ty := [.list (.list (.int .i64))]
abbrev impl_Metric_detour.rs : List Ty := [.bool, .list (.int .i64)]
def impl_Metric_detour.c2 : Cut := ⟨2, [(1, .p 0), (10, .h (.list (.list (.int .i64)))), (11, .h (.int .i64)), (12, .h (.int .i64))], [.box [.h (.list (.list (.int .i64)))]]⟩
def impl_Metric_detour.c5 : Cut := ⟨5, [(1, .p 0), (4, .h (.int .i64)), (5, .h (.list (.int .i64))), (10, .h (.list (.list (.int .i64)))), (11, .h (.int .i64)), (12, .h (.int .i64)), (17, .h (.list (.int .i64))), (18, .h (.int .i64)), (19, .h (.int .i64))], [.box [.h (.list (.list (.int .i64)))]]⟩
def impl_Metric_detour.c8 : Cut := ⟨8, [(1, .p 0), (4, .h (.int .i64)), (5, .h (.list (.int .i64))), (6, .h (.int .i64)), (7, .h (.int .i64)), (10, .h (.list (.list (.int .i64)))), (11, .h (.int .i64)), (12, .h (.int .i64)), (17, .h (.list (.int .i64))), (18, .h (.int .i64)), (19, .h (.int .i64)), (26, .h (.int .i64)), (27, .h (.int .i64))], [.box [.h (.list (.list (.int .i64)))]]⟩
noncomputable def impl_Metric_detour.E (k : Nat) : Env :=
  ⟨tab, 52, impl_Metric_detour.ent, impl_Metric_detour.rs, [], ctOf [], [impl_Metric_detour.c2, impl_Metric_detour.c5, impl_Metric_detour.c8], [.tmp 2, .tmp 3]⟩
noncomputable def impl_Metric_detour.S2 : List Item := stk (bodyOf Tryz.f95) 2
noncomputable def impl_Metric_detour.m2 (x10 : List (List Int)) (x11 : Int) (x12 : Int) (x1_0 : List (List Int)) : St := mkS impl_Metric_detour.c2 [.v (.list (.list (.int .i64))) x10, .v (.int .i64) x11, .v (.int .i64) x12, .v (.list (.list (.int .i64))) x1_0]
noncomputable def impl_Metric_detour.S5 : List Item := stk (bodyOf Tryz.f95) 5
noncomputable def impl_Metric_detour.m5 (x4 : Int) (x5 : List Int) (x10 : List (List Int)) (x11 : Int) (x12 : Int) (x17 : List Int) (x18 : Int) (x19 : Int) (x1_0 : List (List Int)) : St := mkS impl_Metric_detour.c5 [.v (.int .i64) x4, .v (.list (.int .i64)) x5, .v (.list (.list (.int .i64))) x10, .v (.int .i64) x11, .v (.int .i64) x12, .v (.list (.int .i64)) x17, .v (.int .i64) x18, .v (.int .i64) x19, .v (.list (.list (.int .i64))) x1_0]
noncomputable def impl_Metric_detour.S8 : List Item := stk (bodyOf Tryz.f95) 8
noncomputable def impl_Metric_detour.m8 (x4 : Int) (x5 : List Int) (x6 : Int) (x7 : Int) (x10 : List (List Int)) (x11 : Int) (x12 : Int) (x17 : List Int) (x18 : Int) (x19 : Int) (x26 : Int) (x27 : Int) (x1_0 : List (List Int)) : St := mkS impl_Metric_detour.c8 [.v (.int .i64) x4, .v (.list (.int .i64)) x5, .v (.int .i64) x6, .v (.int .i64) x7, .v (.list (.list (.int .i64))) x10, .v (.int .i64) x11, .v (.int .i64) x12, .v (.list (.int .i64)) x17, .v (.int .i64) x18, .v (.int .i64) x19, .v (.int .i64) x26, .v (.int .i64) x27, .v (.list (.list (.int .i64))) x1_0]
theorem impl_Metric_detour.h2 (k : Nat) (R : List Item → St → Option (PD impl_Metric_detour.rs)) (x10 : List (List Int)) (x11 : Int) (x12 : Int) (x1_0 : List (List Int)) : run (impl_Metric_detour.E k) R 4000 true impl_Metric_detour.S2 (impl_Metric_detour.m2 x10 x11 x12 x1_0) = impl_Metric_detour.B2 k (fun x10 x11 x12 x1_0 => R impl_Metric_detour.S2 (impl_Metric_detour.m2 x10 x11 x12 x1_0)) (fun x4 x5 x10 x11 x12 x17 x18 x19 x1_0 => R impl_Metric_detour.S5 (impl_Metric_detour.m5 x4 x5 x10 x11 x12 x17 x18 x19 x1_0)) (fun x4 x5 x6 x7 x10 x11 x12 x17 x18 x19 x26 x27 x1_0 => R impl_Metric_detour.S8 (impl_Metric_detour.m8 x4 x5 x6 x7 x10 x11 x12 x17 x18 x19 x26 x27 x1_0)) x10 x11 x12 x1_0 := by kernel_rfl
theorem impl_Metric_detour.h5 (k : Nat) (R : List Item → St → Option (PD impl_Metric_detour.rs)) (x4 : Int) (x5 : List Int) (x10 : List (List Int)) (x11 : Int) (x12 : Int) (x17 : List Int) (x18 : Int) (x19 : Int) (x1_0 : List (List Int)) : run (impl_Metric_detour.E k) R 4000 true impl_Metric_detour.S5 (impl_Metric_detour.m5 x4 x5 x10 x11 x12 x17 x18 x19 x1_0) = impl_Metric_detour.B5 k (fun x10 x11 x12 x1_0 => R impl_Metric_detour.S2 (impl_Metric_detour.m2 x10 x11 x12 x1_0)) (fun x4 x5 x10 x11 x12 x17 x18 x19 x1_0 => R impl_Metric_detour.S5 (impl_Metric_detour.m5 x4 x5 x10 x11 x12 x17 x18 x19 x1_0)) (fun x4 x5 x6 x7 x10 x11 x12 x17 x18 x19 x26 x27 x1_0 => R impl_Metric_detour.S8 (impl_Metric_detour.m8 x4 x5 x6 x7 x10 x11 x12 x17 x18 x19 x26 x27 x1_0)) x4 x5 x10 x11 x12 x17 x18 x19 x1_0 := by kernel_rfl
theorem impl_Metric_detour.h8 (k : Nat) (R : List Item → St → Option (PD impl_Metric_detour.rs)) (x4 : Int) (x5 : List Int) (x6 : Int) (x7 : Int) (x10 : List (List Int)) (x11 : Int) (x12 : Int) (x17 : List Int) (x18 : Int) (x19 : Int) (x26 : Int) (x27 : Int) (x1_0 : List (List Int)) : run (impl_Metric_detour.E k) R 4000 true impl_Metric_detour.S8 (impl_Metric_detour.m8 x4 x5 x6 x7 x10 x11 x12 x17 x18 x19 x26 x27 x1_0) = impl_Metric_detour.B8 k (fun x10 x11 x12 x1_0 => R impl_Metric_detour.S2 (impl_Metric_detour.m2 x10 x11 x12 x1_0)) (fun x4 x5 x10 x11 x12 x17 x18 x19 x1_0 => R impl_Metric_detour.S5 (impl_Metric_detour.m5 x4 x5 x10 x11 x12 x17 x18 x19 x1_0)) (fun x4 x5 x6 x7 x10 x11 x12 x17 x18 x19 x26 x27 x1_0 => R impl_Metric_detour.S8 (impl_Metric_detour.m8 x4 x5 x6 x7 x10 x11 x12 x17 x18 x19 x26 x27 x1_0)) x4 x5 x6 x7 x10 x11 x12 x17 x18 x19 x26 x27 x1_0 := by kernel_rfl
theorem impl_Metric_detour.h (k : Nat) (R : List Item → St → Option (PD impl_Metric_detour.rs)) (a0 : List (List Int)) : run (impl_Metric_detour.E k) R 4000 true [.code (bodyOf Tryz.f95)] (stA (impl_Metric_detour.E k) [.v (.list (.list (.int .i64))) a0]) = impl_Metric_detour.B k (fun x10 x11 x12 x1_0 => R impl_Metric_detour.S2 (impl_Metric_detour.m2 x10 x11 x12 x1_0)) (fun x4 x5 x10 x11 x12 x17 x18 x19 x1_0 => R impl_Metric_detour.S5 (impl_Metric_detour.m5 x4 x5 x10 x11 x12 x17 x18 x19 x1_0)) (fun x4 x5 x6 x7 x10 x11 x12 x17 x18 x19 x26 x27 x1_0 => R impl_Metric_detour.S8 (impl_Metric_detour.m8 x4 x5 x6 x7 x10 x11 x12 x17 x18 x19 x26 x27 x1_0)) a0 := by kernel_rfl
theorem impl_Metric_detour.eok (k : Nat) : EOk Tryz.prog (impl_Metric_detour.E k) Tryz.f95 :=
  ⟨Tryz.func95, Tryz.ntmps95, by kernel_rfl, tab_ok, mixed, cuts_of (by kernel_rfl), Tab.ok .nil, by kernel_rfl⟩
theorem impl_Metric_detour.ff (k : Nat) : ∀ n : Nat, ((fun x10 x11 x12 x1_0 => FF (impl_Metric_detour.E k) n impl_Metric_detour.S2 (impl_Metric_detour.m2 x10 x11 x12 x1_0)), (fun x4 x5 x10 x11 x12 x17 x18 x19 x1_0 => FF (impl_Metric_detour.E k) n impl_Metric_detour.S5 (impl_Metric_detour.m5 x4 x5 x10 x11 x12 x17 x18 x19 x1_0)), (fun x4 x5 x6 x7 x10 x11 x12 x17 x18 x19 x26 x27 x1_0 => FF (impl_Metric_detour.E k) n impl_Metric_detour.S8 (impl_Metric_detour.m8 x4 x5 x6 x7 x10 x11 x12 x17 x18 x19 x26 x27 x1_0))) = impl_Metric_detour.bs k n
  | 0 => rfl
  | n + 1 => by
    show ((fun x10 x11 x12 x1_0 => FF (impl_Metric_detour.E k) (n + 1) impl_Metric_detour.S2 (impl_Metric_detour.m2 x10 x11 x12 x1_0)), (fun x4 x5 x10 x11 x12 x17 x18 x19 x1_0 => FF (impl_Metric_detour.E k) (n + 1) impl_Metric_detour.S5 (impl_Metric_detour.m5 x4 x5 x10 x11 x12 x17 x18 x19 x1_0)), (fun x4 x5 x6 x7 x10 x11 x12 x17 x18 x19 x26 x27 x1_0 => FF (impl_Metric_detour.E k) (n + 1) impl_Metric_detour.S8 (impl_Metric_detour.m8 x4 x5 x6 x7 x10 x11 x12 x17 x18 x19 x26 x27 x1_0))) = (impl_Metric_detour.B2 k ((impl_Metric_detour.bs k n).1) ((impl_Metric_detour.bs k n).2.1) ((impl_Metric_detour.bs k n).2.2), impl_Metric_detour.B5 k ((impl_Metric_detour.bs k n).1) ((impl_Metric_detour.bs k n).2.1) ((impl_Metric_detour.bs k n).2.2), impl_Metric_detour.B8 k ((impl_Metric_detour.bs k n).1) ((impl_Metric_detour.bs k n).2.1) ((impl_Metric_detour.bs k n).2.2))
    rw [← impl_Metric_detour.ff k n]
    exact (Prod.ext (funext fun x10 => funext fun x11 => funext fun x12 => funext fun x1_0 => by dsimp only; exact (FF_succ ..).trans (impl_Metric_detour.h2 k (fun t s => FF (impl_Metric_detour.E k) n t s) x10 x11 x12 x1_0)) (Prod.ext (funext fun x4 => funext fun x5 => funext fun x10 => funext fun x11 => funext fun x12 => funext fun x17 => funext fun x18 => funext fun x19 => funext fun x1_0 => by dsimp only; exact (FF_succ ..).trans (impl_Metric_detour.h5 k (fun t s => FF (impl_Metric_detour.E k) n t s) x4 x5 x10 x11 x12 x17 x18 x19 x1_0)) (funext fun x4 => funext fun x5 => funext fun x6 => funext fun x7 => funext fun x10 => funext fun x11 => funext fun x12 => funext fun x17 => funext fun x18 => funext fun x19 => funext fun x26 => funext fun x27 => funext fun x1_0 => by dsimp only; exact (FF_succ ..).trans (impl_Metric_detour.h8 k (fun t s => FF (impl_Metric_detour.E k) n t s) x4 x5 x6 x7 x10 x11 x12 x17 x18 x19 x26 x27 x1_0))))
theorem impl_Metric_detour.run (k : Nat) (a0 : List (List Int)): FF (impl_Metric_detour.E k) (k + 1) [.code (bodyOf Tryz.f95)] (stA (impl_Metric_detour.E k) [.v (.list (.list (.int .i64))) a0]) = impl_Metric_detour.f k a0 :=
  (FF_succ ..).trans ((impl_Metric_detour.h k (fun t s => FF (impl_Metric_detour.E k) k t s) a0).trans (by
    show _ = impl_Metric_detour.B k ((impl_Metric_detour.bs k k).1) ((impl_Metric_detour.bs k k).2.1) ((impl_Metric_detour.bs k k).2.2) a0
    rw [← impl_Metric_detour.ff k k]))
theorem impl_Metric_detour.ok (k : Nat) : FnOK Tryz.prog impl_Metric_detour.ent impl_Metric_detour.ts impl_Metric_detour.rs fun a => impl_Metric_detour.f k a :=
  ⟨hasBody_of Tryz.func95 (by kernel_rfl), by kernel_rfl, by kernel_rfl, fun a r hr => good_of (E := (impl_Metric_detour.E k)) (k := (k + 1)) (xs := encL impl_Metric_detour.ts a) (impl_Metric_detour.eok k) (body := (bodyOf Tryz.f95)) (by kernel_rfl) (by kernel_rfl) ((impl_Metric_detour.run k a).trans hr)⟩

def impl_IsMetric.B (k : Nat) (a0 : List (List Int)) : Option (Bool) :=
  (impl_Metric_isTable.f k a0 false).bind fun t1 => (bif !t1 then some false else ((impl_Metric_detour.f k a0).bind fun t2 => some (!t2.1)))
def impl_IsMetric.f (k : Nat) (a0 : List (List Int)) : Option (Bool) := impl_IsMetric.B k a0
def impl_IsMetric.ent : Ent := ⟨57, [.agg [.h (.list (.list (.int .i64)))]], [], .h (.bool), [], 25⟩
abbrev impl_IsMetric.ts : List Ty := [.list (.list (.int .i64))]
abbrev impl_IsMetric.rs : List Ty := [.bool]
noncomputable def impl_IsMetric.E (k : Nat) : Env :=
  ⟨tab, 15, impl_IsMetric.ent, impl_IsMetric.rs, [impl_Metric_isTable.ent, impl_Metric_detour.ent], ctOf [(23, mkF impl_Metric_isTable.ts impl_Metric_isTable.rs fun a => impl_Metric_isTable.f k a.1 a.2),
    (24, mkF impl_Metric_detour.ts impl_Metric_detour.rs fun a => impl_Metric_detour.f k a)], [], [.tmp 2]⟩
theorem impl_IsMetric.h (k : Nat) (R : List Item → St → Option (PD impl_IsMetric.rs)) (a0 : List (List Int)) : run (impl_IsMetric.E k) R 4000 true [.code (bodyOf Tryz.f57)] (stA (impl_IsMetric.E k) [.v (.list (.list (.int .i64))) a0]) = impl_IsMetric.B k a0 := by kernel_rfl
theorem impl_IsMetric.eok (k : Nat) : EOk Tryz.prog (impl_IsMetric.E k) Tryz.f57 :=
  ⟨Tryz.func57, Tryz.ntmps57, by kernel_rfl, tab_ok, mixed, cuts_of (by kernel_rfl), Tab.ok (.cons (impl_Metric_isTable.ok k) (by kernel_rfl) (.cons (impl_Metric_detour.ok k) (by kernel_rfl) .nil)), by kernel_rfl⟩
theorem impl_IsMetric.run (k : Nat) (a0 : List (List Int)): FF (impl_IsMetric.E k) 1 [.code (bodyOf Tryz.f57)] (stA (impl_IsMetric.E k) [.v (.list (.list (.int .i64))) a0]) = impl_IsMetric.f k a0 :=
  (FF_succ ..).trans (impl_IsMetric.h k (fun t s => FF (impl_IsMetric.E k) 0 t s) a0)
theorem impl_IsMetric.ok (k : Nat) : FnOK Tryz.prog impl_IsMetric.ent impl_IsMetric.ts impl_IsMetric.rs fun a => impl_IsMetric.f k a :=
  ⟨hasBody_of Tryz.func57 (by kernel_rfl), by kernel_rfl, by kernel_rfl, fun a r hr => good_of (E := (impl_IsMetric.E k)) (k := 1) (xs := encL impl_IsMetric.ts a) (impl_IsMetric.eok k) (body := (bodyOf Tryz.f57)) (by kernel_rfl) (by kernel_rfl) ((impl_IsMetric.run k a).trans hr)⟩

def impl_IsProblem_1_1.B (a0 : Int) : Option (Bool) :=
  (impl_within.f a0 (-1) 20).bind fun t1 => some (!t1)
def impl_IsProblem_1_1.f (a0 : Int) : Option (Bool) := impl_IsProblem_1_1.B a0
def impl_IsProblem_1_1.ent : Ent := ⟨62, [.h (.int .i64)], [], .h (.bool), [], 26⟩
abbrev impl_IsProblem_1_1.ts : List Ty := [.int .i64]
abbrev impl_IsProblem_1_1.rs : List Ty := [.bool]
noncomputable def impl_IsProblem_1_1.E : Env :=
  ⟨tab, 6, impl_IsProblem_1_1.ent, impl_IsProblem_1_1.rs, [impl_within.ent], ctOf [(18, mkF impl_within.ts impl_within.rs fun a => impl_within.f a.1 a.2.1 a.2.2)], [], [.tmp 2]⟩
theorem impl_IsProblem_1_1.h (R : List Item → St → Option (PD impl_IsProblem_1_1.rs)) (a0 : Int) : run (impl_IsProblem_1_1.E) R 4000 true [.code (bodyOf Tryz.f62)] (stA (impl_IsProblem_1_1.E) [.v (.int .i64) a0]) = impl_IsProblem_1_1.B a0 := by kernel_rfl
theorem impl_IsProblem_1_1.eok : EOk Tryz.prog (impl_IsProblem_1_1.E) Tryz.f62 :=
  ⟨Tryz.func62, Tryz.ntmps62, by kernel_rfl, tab_ok, mixed, cuts_of (by kernel_rfl), Tab.ok (.cons (impl_within.ok) (by kernel_rfl) .nil), by kernel_rfl⟩
theorem impl_IsProblem_1_1.run (a0 : Int): FF (impl_IsProblem_1_1.E) 1 [.code (bodyOf Tryz.f62)] (stA (impl_IsProblem_1_1.E) [.v (.int .i64) a0]) = impl_IsProblem_1_1.f a0 :=
  (FF_succ ..).trans (impl_IsProblem_1_1.h (fun t s => FF (impl_IsProblem_1_1.E) 0 t s) a0)
theorem impl_IsProblem_1_1.ok : FnOK Tryz.prog impl_IsProblem_1_1.ent impl_IsProblem_1_1.ts impl_IsProblem_1_1.rs fun a => impl_IsProblem_1_1.f a :=
  ⟨hasBody_of Tryz.func62 (by kernel_rfl), by kernel_rfl, by kernel_rfl, fun a r hr => good_of (E := (impl_IsProblem_1_1.E)) (k := 1) (xs := encL impl_IsProblem_1_1.ts a) (impl_IsProblem_1_1.eok) (body := (bodyOf Tryz.f62)) (by kernel_rfl) (by kernel_rfl) ((impl_IsProblem_1_1.run a).trans hr)⟩

def slices_IndexFunc_at_IsProblem_1_1.B2 (k : Nat) (r2 : List Int → Int → Int → Option (Int)) (x0 : List Int) (x7 : Int) (x8 : Int) : Option (Int) :=
  bif decide (x8 < x7) then (if (0 : Int) ≤ x8 ∧ x8 < (x0.length : Int) then ((impl_IsProblem_1_1.f (x0.getD x8.toNat 0)).bind fun t1 => (bif t1 then some x8 else (r2 x0 x7 (w64 (x8 + 1))))) else none) else some (-1)
def slices_IndexFunc_at_IsProblem_1_1.B (k : Nat) (r2 : List Int → Int → Int → Option (Int)) (a0 : List Int) : Option (Int) :=
  r2 a0 (a0.length : Int) 0
def slices_IndexFunc_at_IsProblem_1_1.bs (k : Nat) : Nat → (List Int → Int → Int → Option (Int))
  | 0 => (fun _ _ _ => none)
  | n + 1 => (slices_IndexFunc_at_IsProblem_1_1.B2 k ((slices_IndexFunc_at_IsProblem_1_1.bs k n)))
def slices_IndexFunc_at_IsProblem_1_1.f (k : Nat) (a0 : List Int) : Option (Int) := slices_IndexFunc_at_IsProblem_1_1.B k ((slices_IndexFunc_at_IsProblem_1_1.bs k k)) a0
def slices_IndexFunc_at_IsProblem_1_1.ent : Ent := ⟨97, [.h (.list (.int .i64)), .fn 62 [] []], [], .h (.int .i64), [], 27⟩
abbrev slices_IndexFunc_at_IsProblem_1_1.ts : List Ty := [.list (.int .i64)]
abbrev slices_IndexFunc_at_IsProblem_1_1.rs : List Ty := [.int .i64]
def slices_IndexFunc_at_IsProblem_1_1.c2 : Cut := ⟨2, [(0, .h (.list (.int .i64))), (1, .fn 62 [] []), (7, .h (.int .i64)), (8, .h (.int .i64))], []⟩
noncomputable def slices_IndexFunc_at_IsProblem_1_1.E (k : Nat) : Env :=
  ⟨tab, 19, slices_IndexFunc_at_IsProblem_1_1.ent, slices_IndexFunc_at_IsProblem_1_1.rs, [impl_IsProblem_1_1.ent], ctOf [(26, mkF impl_IsProblem_1_1.ts impl_IsProblem_1_1.rs fun a => impl_IsProblem_1_1.f a)], [slices_IndexFunc_at_IsProblem_1_1.c2], [.tmp 4]⟩
noncomputable def slices_IndexFunc_at_IsProblem_1_1.S2 : List Item := stk (bodyOf Tryz.f97) 2
noncomputable def slices_IndexFunc_at_IsProblem_1_1.m2 (x0 : List Int) (x7 : Int) (x8 : Int) : St := mkS slices_IndexFunc_at_IsProblem_1_1.c2 [.v (.list (.int .i64)) x0, .v (.int .i64) x7, .v (.int .i64) x8]
theorem slices_IndexFunc_at_IsProblem_1_1.h2 (k : Nat) (R : List Item → St → Option (PD slices_IndexFunc_at_IsProblem_1_1.rs)) (x0 : List Int) (x7 : Int) (x8 : Int) : run (slices_IndexFunc_at_IsProblem_1_1.E k) R 4000 true slices_IndexFunc_at_IsProblem_1_1.S2 (slices_IndexFunc_at_IsProblem_1_1.m2 x0 x7 x8) = slices_IndexFunc_at_IsProblem_1_1.B2 k (fun x0 x7 x8 => R slices_IndexFunc_at_IsProblem_1_1.S2 (slices_IndexFunc_at_IsProblem_1_1.m2 x0 x7 x8)) x0 x7 x8 := by kernel_rfl
theorem slices_IndexFunc_at_IsProblem_1_1.h (k : Nat) (R : List Item → St → Option (PD slices_IndexFunc_at_IsProblem_1_1.rs)) (a0 : List Int) : run (slices_IndexFunc_at_IsProblem_1_1.E k) R 4000 true [.code (bodyOf Tryz.f97)] (stA (slices_IndexFunc_at_IsProblem_1_1.E k) [.v (.list (.int .i64)) a0]) = slices_IndexFunc_at_IsProblem_1_1.B k (fun x0 x7 x8 => R slices_IndexFunc_at_IsProblem_1_1.S2 (slices_IndexFunc_at_IsProblem_1_1.m2 x0 x7 x8)) a0 := by kernel_rfl
theorem slices_IndexFunc_at_IsProblem_1_1.eok (k : Nat) : EOk Tryz.prog (slices_IndexFunc_at_IsProblem_1_1.E k) Tryz.f97 :=
  ⟨Tryz.func97, Tryz.ntmps97, by kernel_rfl, tab_ok, mixed, cuts_of (by kernel_rfl), Tab.ok (.cons (impl_IsProblem_1_1.ok) (by kernel_rfl) .nil), by kernel_rfl⟩
theorem slices_IndexFunc_at_IsProblem_1_1.ff (k : Nat) : ∀ n : Nat, (fun x0 x7 x8 => FF (slices_IndexFunc_at_IsProblem_1_1.E k) n slices_IndexFunc_at_IsProblem_1_1.S2 (slices_IndexFunc_at_IsProblem_1_1.m2 x0 x7 x8)) = slices_IndexFunc_at_IsProblem_1_1.bs k n
  | 0 => rfl
  | n + 1 => by
    show (fun x0 x7 x8 => FF (slices_IndexFunc_at_IsProblem_1_1.E k) (n + 1) slices_IndexFunc_at_IsProblem_1_1.S2 (slices_IndexFunc_at_IsProblem_1_1.m2 x0 x7 x8)) = (slices_IndexFunc_at_IsProblem_1_1.B2 k ((slices_IndexFunc_at_IsProblem_1_1.bs k n)))
    rw [← slices_IndexFunc_at_IsProblem_1_1.ff k n]
    exact (funext fun x0 => funext fun x7 => funext fun x8 => (FF_succ ..).trans (slices_IndexFunc_at_IsProblem_1_1.h2 k (fun t s => FF (slices_IndexFunc_at_IsProblem_1_1.E k) n t s) x0 x7 x8))
theorem slices_IndexFunc_at_IsProblem_1_1.run (k : Nat) (a0 : List Int): FF (slices_IndexFunc_at_IsProblem_1_1.E k) (k + 1) [.code (bodyOf Tryz.f97)] (stA (slices_IndexFunc_at_IsProblem_1_1.E k) [.v (.list (.int .i64)) a0]) = slices_IndexFunc_at_IsProblem_1_1.f k a0 :=
  (FF_succ ..).trans ((slices_IndexFunc_at_IsProblem_1_1.h k (fun t s => FF (slices_IndexFunc_at_IsProblem_1_1.E k) k t s) a0).trans (by
    show _ = slices_IndexFunc_at_IsProblem_1_1.B k ((slices_IndexFunc_at_IsProblem_1_1.bs k k)) a0
    rw [← slices_IndexFunc_at_IsProblem_1_1.ff k k]))
theorem slices_IndexFunc_at_IsProblem_1_1.ok (k : Nat) : FnOK Tryz.prog slices_IndexFunc_at_IsProblem_1_1.ent slices_IndexFunc_at_IsProblem_1_1.ts slices_IndexFunc_at_IsProblem_1_1.rs fun a => slices_IndexFunc_at_IsProblem_1_1.f k a :=
  ⟨hasBody_of Tryz.func97 (by kernel_rfl), by kernel_rfl, by kernel_rfl, fun a r hr => good_of (E := (slices_IndexFunc_at_IsProblem_1_1.E k)) (k := (k + 1)) (xs := encL slices_IndexFunc_at_IsProblem_1_1.ts a) (slices_IndexFunc_at_IsProblem_1_1.eok k) (body := (bodyOf Tryz.f97)) (by kernel_rfl) (by kernel_rfl) ((slices_IndexFunc_at_IsProblem_1_1.run k a).trans hr)⟩

def slices_ContainsFunc_at_IsProblem_1_1.B (k : Nat) (a0 : List Int) : Option (Bool) :=
  (slices_IndexFunc_at_IsProblem_1_1.f k a0).bind fun t1 => some (decide ((0 : Int) ≤ t1))
def slices_ContainsFunc_at_IsProblem_1_1.f (k : Nat) (a0 : List Int) : Option (Bool) := slices_ContainsFunc_at_IsProblem_1_1.B k a0
def slices_ContainsFunc_at_IsProblem_1_1.ent : Ent := ⟨61, [.h (.list (.int .i64)), .fn 62 [] []], [], .h (.bool), [], 28⟩
abbrev slices_ContainsFunc_at_IsProblem_1_1.ts : List Ty := [.list (.int .i64)]
abbrev slices_ContainsFunc_at_IsProblem_1_1.rs : List Ty := [.bool]
noncomputable def slices_ContainsFunc_at_IsProblem_1_1.E (k : Nat) : Env :=
  ⟨tab, 9, slices_ContainsFunc_at_IsProblem_1_1.ent, slices_ContainsFunc_at_IsProblem_1_1.rs, [slices_IndexFunc_at_IsProblem_1_1.ent], ctOf [(27, mkF slices_IndexFunc_at_IsProblem_1_1.ts slices_IndexFunc_at_IsProblem_1_1.rs fun a => slices_IndexFunc_at_IsProblem_1_1.f k a)], [], [.tmp 4]⟩
theorem slices_ContainsFunc_at_IsProblem_1_1.h (k : Nat) (R : List Item → St → Option (PD slices_ContainsFunc_at_IsProblem_1_1.rs)) (a0 : List Int) : run (slices_ContainsFunc_at_IsProblem_1_1.E k) R 4000 true [.code (bodyOf Tryz.f61)] (stA (slices_ContainsFunc_at_IsProblem_1_1.E k) [.v (.list (.int .i64)) a0]) = slices_ContainsFunc_at_IsProblem_1_1.B k a0 := by kernel_rfl
theorem slices_ContainsFunc_at_IsProblem_1_1.eok (k : Nat) : EOk Tryz.prog (slices_ContainsFunc_at_IsProblem_1_1.E k) Tryz.f61 :=
  ⟨Tryz.func61, Tryz.ntmps61, by kernel_rfl, tab_ok, mixed, cuts_of (by kernel_rfl), Tab.ok (.cons (slices_IndexFunc_at_IsProblem_1_1.ok k) (by kernel_rfl) .nil), by kernel_rfl⟩
theorem slices_ContainsFunc_at_IsProblem_1_1.run (k : Nat) (a0 : List Int): FF (slices_ContainsFunc_at_IsProblem_1_1.E k) 1 [.code (bodyOf Tryz.f61)] (stA (slices_ContainsFunc_at_IsProblem_1_1.E k) [.v (.list (.int .i64)) a0]) = slices_ContainsFunc_at_IsProblem_1_1.f k a0 :=
  (FF_succ ..).trans (slices_ContainsFunc_at_IsProblem_1_1.h k (fun t s => FF (slices_ContainsFunc_at_IsProblem_1_1.E k) 0 t s) a0)
theorem slices_ContainsFunc_at_IsProblem_1_1.ok (k : Nat) : FnOK Tryz.prog slices_ContainsFunc_at_IsProblem_1_1.ent slices_ContainsFunc_at_IsProblem_1_1.ts slices_ContainsFunc_at_IsProblem_1_1.rs fun a => slices_ContainsFunc_at_IsProblem_1_1.f k a :=
  ⟨hasBody_of Tryz.func61 (by kernel_rfl), by kernel_rfl, by kernel_rfl, fun a r hr => good_of (E := (slices_ContainsFunc_at_IsProblem_1_1.E k)) (k := 1) (xs := encL slices_ContainsFunc_at_IsProblem_1_1.ts a) (slices_ContainsFunc_at_IsProblem_1_1.eok k) (body := (bodyOf Tryz.f61)) (by kernel_rfl) (by kernel_rfl) ((slices_ContainsFunc_at_IsProblem_1_1.run k a).trans hr)⟩

def slices_Max.B5 (k : Nat) (r5 : List Int → Int → Int → Option (Int)) (x0 : List Int) (x3 : Int) (x4 : Int) : Option (Int) :=
  bif decide (x4 < (x0.length : Int)) then (if (0 : Int) ≤ x4 ∧ x4 < (x0.length : Int) then (r5 x0 (max x3 (x0.getD x4.toNat 0)) (w64 (x4 + 1))) else none) else some x3
def slices_Max.B (k : Nat) (r5 : List Int → Int → Int → Option (Int)) (a0 : List Int) : Option (Int) :=
  bif decide ((a0.length : Int) < (1 : Int)) then none else (if (0 : Int) ≤ 0 ∧ (0 : Int) < (a0.length : Int) then (r5 a0 (a0.getD 0 0) 1) else none)
def slices_Max.bs (k : Nat) : Nat → (List Int → Int → Int → Option (Int))
  | 0 => (fun _ _ _ => none)
  | n + 1 => (slices_Max.B5 k ((slices_Max.bs k n)))
def slices_Max.f (k : Nat) (a0 : List Int) : Option (Int) := slices_Max.B k ((slices_Max.bs k k)) a0
def slices_Max.ent : Ent := ⟨63, [.h (.list (.int .i64))], [], .h (.int .i64), [], 29⟩
abbrev slices_Max.ts : List Ty := [.list (.int .i64)]
abbrev slices_Max.rs : List Ty := [.int .i64]
def slices_Max.c5 : Cut := ⟨5, [(0, .h (.list (.int .i64))), (3, .h (.int .i64)), (4, .h (.int .i64))], []⟩
noncomputable def slices_Max.E (k : Nat) : Env :=
  ⟨tab, 25, slices_Max.ent, slices_Max.rs, [], ctOf [], [slices_Max.c5], [.tmp 2]⟩
noncomputable def slices_Max.S5 : List Item := stk (bodyOf Tryz.f63) 5
noncomputable def slices_Max.m5 (x0 : List Int) (x3 : Int) (x4 : Int) : St := mkS slices_Max.c5 [.v (.list (.int .i64)) x0, .v (.int .i64) x3, .v (.int .i64) x4]
theorem slices_Max.h5 (k : Nat) (R : List Item → St → Option (PD slices_Max.rs)) (x0 : List Int) (x3 : Int) (x4 : Int) : run (slices_Max.E k) R 4000 true slices_Max.S5 (slices_Max.m5 x0 x3 x4) = slices_Max.B5 k (fun x0 x3 x4 => R slices_Max.S5 (slices_Max.m5 x0 x3 x4)) x0 x3 x4 := by kernel_rfl
theorem slices_Max.h (k : Nat) (R : List Item → St → Option (PD slices_Max.rs)) (a0 : List Int) : run (slices_Max.E k) R 4000 true [.code (bodyOf Tryz.f63)] (stA (slices_Max.E k) [.v (.list (.int .i64)) a0]) = slices_Max.B k (fun x0 x3 x4 => R slices_Max.S5 (slices_Max.m5 x0 x3 x4)) a0 := by kernel_rfl
theorem slices_Max.eok (k : Nat) : EOk Tryz.prog (slices_Max.E k) Tryz.f63 :=
  ⟨Tryz.func63, Tryz.ntmps63, by kernel_rfl, tab_ok, mixed, cuts_of (by kernel_rfl), Tab.ok .nil, by kernel_rfl⟩
theorem slices_Max.ff (k : Nat) : ∀ n : Nat, (fun x0 x3 x4 => FF (slices_Max.E k) n slices_Max.S5 (slices_Max.m5 x0 x3 x4)) = slices_Max.bs k n
  | 0 => rfl
  | n + 1 => by
    show (fun x0 x3 x4 => FF (slices_Max.E k) (n + 1) slices_Max.S5 (slices_Max.m5 x0 x3 x4)) = (slices_Max.B5 k ((slices_Max.bs k n)))
    rw [← slices_Max.ff k n]
    exact (funext fun x0 => funext fun x3 => funext fun x4 => (FF_succ ..).trans (slices_Max.h5 k (fun t s => FF (slices_Max.E k) n t s) x0 x3 x4))
theorem slices_Max.run (k : Nat) (a0 : List Int): FF (slices_Max.E k) (k + 1) [.code (bodyOf Tryz.f63)] (stA (slices_Max.E k) [.v (.list (.int .i64)) a0]) = slices_Max.f k a0 :=
  (FF_succ ..).trans ((slices_Max.h k (fun t s => FF (slices_Max.E k) k t s) a0).trans (by
    show _ = slices_Max.B k ((slices_Max.bs k k)) a0
    rw [← slices_Max.ff k k]))
theorem slices_Max.ok (k : Nat) : FnOK Tryz.prog slices_Max.ent slices_Max.ts slices_Max.rs fun a => slices_Max.f k a :=
  ⟨hasBody_of Tryz.func63 (by kernel_rfl), by kernel_rfl, by kernel_rfl, fun a r hr => good_of (E := (slices_Max.E k)) (k := (k + 1)) (xs := encL slices_Max.ts a) (slices_Max.eok k) (body := (bodyOf Tryz.f63)) (by kernel_rfl) (by kernel_rfl) ((slices_Max.run k a).trans hr)⟩

def impl_IsProblem_1.B (k : Nat) (a0 : List Int) (a1 : Int) : Option (Bool) :=
  bif !decide ((a0.length : Int) = a1) then some true else ((slices_ContainsFunc_at_IsProblem_1_1.f k a0).bind fun t1 => (bif t1 then some true else ((slices_Max.f k a0).bind fun t2 => some (decide (t2 < (0 : Int))))))
def impl_IsProblem_1.f (k : Nat) (a0 : List Int) (a1 : Int) : Option (Bool) := impl_IsProblem_1.B k a0 a1
def impl_IsProblem_1.ent : Ent := ⟨60, [.h (.list (.int .i64)), .rp [.h (.int .i64)]], [], .h (.bool), [], 30⟩
abbrev impl_IsProblem_1.ts : List Ty := [.list (.int .i64), .int .i64]
abbrev impl_IsProblem_1.rs : List Ty := [.bool]
noncomputable def impl_IsProblem_1.E (k : Nat) : Env :=
  ⟨tab, 17, impl_IsProblem_1.ent, impl_IsProblem_1.rs, [slices_ContainsFunc_at_IsProblem_1_1.ent, slices_Max.ent], ctOf [(28, mkF slices_ContainsFunc_at_IsProblem_1_1.ts slices_ContainsFunc_at_IsProblem_1_1.rs fun a => slices_ContainsFunc_at_IsProblem_1_1.f k a),
    (29, mkF slices_Max.ts slices_Max.rs fun a => slices_Max.f k a)], [], [.tmp 3]⟩
theorem impl_IsProblem_1.h (k : Nat) (R : List Item → St → Option (PD impl_IsProblem_1.rs)) (a0 : List Int) (a1 : Int) : run (impl_IsProblem_1.E k) R 4000 true [.code (bodyOf Tryz.f60)] (stA (impl_IsProblem_1.E k) [.v (.list (.int .i64)) a0, .v (.int .i64) a1]) = impl_IsProblem_1.B k a0 a1 := by kernel_rfl
theorem impl_IsProblem_1.eok (k : Nat) : EOk Tryz.prog (impl_IsProblem_1.E k) Tryz.f60 :=
  ⟨Tryz.func60, Tryz.ntmps60, by kernel_rfl, tab_ok, mixed, cuts_of (by kernel_rfl), Tab.ok (.cons (slices_ContainsFunc_at_IsProblem_1_1.ok k) (by kernel_rfl) (.cons (slices_Max.ok k) (by kernel_rfl) .nil)), by kernel_rfl⟩
theorem impl_IsProblem_1.run (k : Nat) (a0 : List Int) (a1 : Int): FF (impl_IsProblem_1.E k) 1 [.code (bodyOf Tryz.f60)] (stA (impl_IsProblem_1.E k) [.v (.list (.int .i64)) a0, .v (.int .i64) a1]) = impl_IsProblem_1.f k a0 a1 :=
  (FF_succ ..).trans (impl_IsProblem_1.h k (fun t s => FF (impl_IsProblem_1.E k) 0 t s) a0 a1)
theorem impl_IsProblem_1.ok (k : Nat) : FnOK Tryz.prog impl_IsProblem_1.ent impl_IsProblem_1.ts impl_IsProblem_1.rs fun a => impl_IsProblem_1.f k a.1 a.2 :=
  ⟨hasBody_of Tryz.func60 (by kernel_rfl), by kernel_rfl, by kernel_rfl, fun a r hr => good_of (E := (impl_IsProblem_1.E k)) (k := 1) (xs := encL impl_IsProblem_1.ts a) (impl_IsProblem_1.eok k) (body := (bodyOf Tryz.f60)) (by kernel_rfl) (by kernel_rfl) ((impl_IsProblem_1.run k a.1 a.2).trans hr)⟩

def slices_IndexFunc_at_IsProblem_1.B2 (k : Nat) (r2 : List (List Int) → Int → Int → Int → Option (Int)) (x0 : List (List Int)) (x1_0_0 : Int) (x7 : Int) (x8 : Int) : Option (Int) :=
  bif decide (x8 < x7) then (if (0 : Int) ≤ x8 ∧ x8 < (x0.length : Int) then ((impl_IsProblem_1.f k (x0.getD x8.toNat []) x1_0_0).bind fun t1 => (bif t1 then some x8 else (r2 x0 x1_0_0 x7 (w64 (x8 + 1))))) else none) else some (-1)
def slices_IndexFunc_at_IsProblem_1.B (k : Nat) (r2 : List (List Int) → Int → Int → Int → Option (Int)) (a0 : List (List Int)) (a1 : Int) : Option (Int) :=
  r2 a0 a1 (a0.length : Int) 0
def slices_IndexFunc_at_IsProblem_1.bs (k : Nat) : Nat → (List (List Int) → Int → Int → Int → Option (Int))
  | 0 => (fun _ _ _ _ => none)
  | n + 1 => (slices_IndexFunc_at_IsProblem_1.B2 k ((slices_IndexFunc_at_IsProblem_1.bs k n)))
def slices_IndexFunc_at_IsProblem_1.f (k : Nat) (a0 : List (List Int)) (a1 : Int) : Option (Int) := slices_IndexFunc_at_IsProblem_1.B k ((slices_IndexFunc_at_IsProblem_1.bs k k)) a0 a1
def slices_IndexFunc_at_IsProblem_1.ent : Ent := ⟨96, [.h (.list (.list (.int .i64))), .fn 60 [] [.rp [.h (.int .i64)]]], [], .h (.int .i64), [], 31⟩
abbrev slices_IndexFunc_at_IsProblem_1.ts : List Ty := [.list (.list (.int .i64)), .int .i64]
abbrev slices_IndexFunc_at_IsProblem_1.rs : List Ty := [.int .i64]
def slices_IndexFunc_at_IsProblem_1.c2 : Cut := ⟨2, [(0, .h (.list (.list (.int .i64)))), (1, .fn 60 [] [.rp [.h (.int .i64)]]), (7, .h (.int .i64)), (8, .h (.int .i64))], []⟩
noncomputable def slices_IndexFunc_at_IsProblem_1.E (k : Nat) : Env :=
  ⟨tab, 19, slices_IndexFunc_at_IsProblem_1.ent, slices_IndexFunc_at_IsProblem_1.rs, [impl_IsProblem_1.ent], ctOf [(30, mkF impl_IsProblem_1.ts impl_IsProblem_1.rs fun a => impl_IsProblem_1.f k a.1 a.2)], [slices_IndexFunc_at_IsProblem_1.c2], [.tmp 4]⟩
noncomputable def slices_IndexFunc_at_IsProblem_1.S2 : List Item := stk (bodyOf Tryz.f96) 2
noncomputable def slices_IndexFunc_at_IsProblem_1.m2 (x0 : List (List Int)) (x1_0_0 : Int) (x7 : Int) (x8 : Int) : St := mkS slices_IndexFunc_at_IsProblem_1.c2 [.v (.list (.list (.int .i64))) x0, .v (.int .i64) x1_0_0, .v (.int .i64) x7, .v (.int .i64) x8]
theorem slices_IndexFunc_at_IsProblem_1.h2 (k : Nat) (R : List Item → St → Option (PD slices_IndexFunc_at_IsProblem_1.rs)) (x0 : List (List Int)) (x1_0_0 : Int) (x7 : Int) (x8 : Int) : run (slices_IndexFunc_at_IsProblem_1.E k) R 4000 true slices_IndexFunc_at_IsProblem_1.S2 (slices_IndexFunc_at_IsProblem_1.m2 x0 x1_0_0 x7 x8) = slices_IndexFunc_at_IsProblem_1.B2 k (fun x0 x1_0_0 x7 x8 => R slices_IndexFunc_at_IsProblem_1.S2 (slices_IndexFunc_at_IsProblem_1.m2 x0 x1_0_0 x7 x8)) x0 x1_0_0 x7 x8 := by kernel_rfl
theorem slices_IndexFunc_at_IsProblem_1.h (k : Nat) (R : List Item → St → Option (PD slices_IndexFunc_at_IsProblem_1.rs)) (a0 : List (List Int)) (a1 : Int) : run (slices_IndexFunc_at_IsProblem_1.E k) R 4000 true [.code (bodyOf Tryz.f96)] (stA (slices_IndexFunc_at_IsProblem_1.E k) [.v (.list (.list (.int .i64))) a0, .v (.int .i64) a1]) = slices_IndexFunc_at_IsProblem_1.B k (fun x0 x1_0_0 x7 x8 => R slices_IndexFunc_at_IsProblem_1.S2 (slices_IndexFunc_at_IsProblem_1.m2 x0 x1_0_0 x7 x8)) a0 a1 := by kernel_rfl
theorem slices_IndexFunc_at_IsProblem_1.eok (k : Nat) : EOk Tryz.prog (slices_IndexFunc_at_IsProblem_1.E k) Tryz.f96 :=
  ⟨Tryz.func96, Tryz.ntmps96, by kernel_rfl, tab_ok, mixed, cuts_of (by kernel_rfl), Tab.ok (.cons (impl_IsProblem_1.ok k) (by kernel_rfl) .nil), by kernel_rfl⟩
theorem slices_IndexFunc_at_IsProblem_1.ff (k : Nat) : ∀ n : Nat, (fun x0 x1_0_0 x7 x8 => FF (slices_IndexFunc_at_IsProblem_1.E k) n slices_IndexFunc_at_IsProblem_1.S2 (slices_IndexFunc_at_IsProblem_1.m2 x0 x1_0_0 x7 x8)) = slices_IndexFunc_at_IsProblem_1.bs k n
  | 0 => rfl
  | n + 1 => by
    show (fun x0 x1_0_0 x7 x8 => FF (slices_IndexFunc_at_IsProblem_1.E k) (n + 1) slices_IndexFunc_at_IsProblem_1.S2 (slices_IndexFunc_at_IsProblem_1.m2 x0 x1_0_0 x7 x8)) = (slices_IndexFunc_at_IsProblem_1.B2 k ((slices_IndexFunc_at_IsProblem_1.bs k n)))
    rw [← slices_IndexFunc_at_IsProblem_1.ff k n]
    exact (funext fun x0 => funext fun x1_0_0 => funext fun x7 => funext fun x8 => (FF_succ ..).trans (slices_IndexFunc_at_IsProblem_1.h2 k (fun t s => FF (slices_IndexFunc_at_IsProblem_1.E k) n t s) x0 x1_0_0 x7 x8))
theorem slices_IndexFunc_at_IsProblem_1.run (k : Nat) (a0 : List (List Int)) (a1 : Int): FF (slices_IndexFunc_at_IsProblem_1.E k) (k + 1) [.code (bodyOf Tryz.f96)] (stA (slices_IndexFunc_at_IsProblem_1.E k) [.v (.list (.list (.int .i64))) a0, .v (.int .i64) a1]) = slices_IndexFunc_at_IsProblem_1.f k a0 a1 :=
  (FF_succ ..).trans ((slices_IndexFunc_at_IsProblem_1.h k (fun t s => FF (slices_IndexFunc_at_IsProblem_1.E k) k t s) a0 a1).trans (by
    show _ = slices_IndexFunc_at_IsProblem_1.B k ((slices_IndexFunc_at_IsProblem_1.bs k k)) a0 a1
    rw [← slices_IndexFunc_at_IsProblem_1.ff k k]))
theorem slices_IndexFunc_at_IsProblem_1.ok (k : Nat) : FnOK Tryz.prog slices_IndexFunc_at_IsProblem_1.ent slices_IndexFunc_at_IsProblem_1.ts slices_IndexFunc_at_IsProblem_1.rs fun a => slices_IndexFunc_at_IsProblem_1.f k a.1 a.2 :=
  ⟨hasBody_of Tryz.func96 (by kernel_rfl), by kernel_rfl, by kernel_rfl, fun a r hr => good_of (E := (slices_IndexFunc_at_IsProblem_1.E k)) (k := (k + 1)) (xs := encL slices_IndexFunc_at_IsProblem_1.ts a) (slices_IndexFunc_at_IsProblem_1.eok k) (body := (bodyOf Tryz.f96)) (by kernel_rfl) (by kernel_rfl) ((slices_IndexFunc_at_IsProblem_1.run k a.1 a.2).trans hr)⟩

def slices_ContainsFunc_at_IsProblem_1.B (k : Nat) (a0 : List (List Int)) (a1 : Int) : Option (Bool) :=
  (slices_IndexFunc_at_IsProblem_1.f k a0 a1).bind fun t1 => some (decide ((0 : Int) ≤ t1))
def slices_ContainsFunc_at_IsProblem_1.f (k : Nat) (a0 : List (List Int)) (a1 : Int) : Option (Bool) := slices_ContainsFunc_at_IsProblem_1.B k a0 a1
def slices_ContainsFunc_at_IsProblem_1.ent : Ent := ⟨59, [.h (.list (.list (.int .i64))), .fn 60 [] [.rp [.h (.int .i64)]]], [], .h (.bool), [], 32⟩
abbrev slices_ContainsFunc_at_IsProblem_1.ts : List Ty := [.list (.list (.int .i64)), .int .i64]
abbrev slices_ContainsFunc_at_IsProblem_1.rs : List Ty := [.bool]
noncomputable def slices_ContainsFunc_at_IsProblem_1.E (k : Nat) : Env :=
  ⟨tab, 9, slices_ContainsFunc_at_IsProblem_1.ent, slices_ContainsFunc_at_IsProblem_1.rs, [slices_IndexFunc_at_IsProblem_1.ent], ctOf [(31, mkF slices_IndexFunc_at_IsProblem_1.ts slices_IndexFunc_at_IsProblem_1.rs fun a => slices_IndexFunc_at_IsProblem_1.f k a.1 a.2)], [], [.tmp 4]⟩
theorem slices_ContainsFunc_at_IsProblem_1.h (k : Nat) (R : List Item → St → Option (PD slices_ContainsFunc_at_IsProblem_1.rs)) (a0 : List (List Int)) (a1 : Int) : run (slices_ContainsFunc_at_IsProblem_1.E k) R 4000 true [.code (bodyOf Tryz.f59)] (stA (slices_ContainsFunc_at_IsProblem_1.E k) [.v (.list (.list (.int .i64))) a0, .v (.int .i64) a1]) = slices_ContainsFunc_at_IsProblem_1.B k a0 a1 := by kernel_rfl
theorem slices_ContainsFunc_at_IsProblem_1.eok (k : Nat) : EOk Tryz.prog (slices_ContainsFunc_at_IsProblem_1.E k) Tryz.f59 :=
  ⟨Tryz.func59, Tryz.ntmps59, by kernel_rfl, tab_ok, mixed, cuts_of (by kernel_rfl), Tab.ok (.cons (slices_IndexFunc_at_IsProblem_1.ok k) (by kernel_rfl) .nil), by kernel_rfl⟩
theorem slices_ContainsFunc_at_IsProblem_1.run (k : Nat) (a0 : List (List Int)) (a1 : Int): FF (slices_ContainsFunc_at_IsProblem_1.E k) 1 [.code (bodyOf Tryz.f59)] (stA (slices_ContainsFunc_at_IsProblem_1.E k) [.v (.list (.list (.int .i64))) a0, .v (.int .i64) a1]) = slices_ContainsFunc_at_IsProblem_1.f k a0 a1 :=
  (FF_succ ..).trans (slices_ContainsFunc_at_IsProblem_1.h k (fun t s => FF (slices_ContainsFunc_at_IsProblem_1.E k) 0 t s) a0 a1)
theorem slices_ContainsFunc_at_IsProblem_1.ok (k : Nat) : FnOK Tryz.prog slices_ContainsFunc_at_IsProblem_1.ent slices_ContainsFunc_at_IsProblem_1.ts slices_ContainsFunc_at_IsProblem_1.rs fun a => slices_ContainsFunc_at_IsProblem_1.f k a.1 a.2 :=
  ⟨hasBody_of Tryz.func59 (by kernel_rfl), by kernel_rfl, by kernel_rfl, fun a r hr => good_of (E := (slices_ContainsFunc_at_IsProblem_1.E k)) (k := 1) (xs := encL slices_ContainsFunc_at_IsProblem_1.ts a) (slices_ContainsFunc_at_IsProblem_1.eok k) (body := (bodyOf Tryz.f59)) (by kernel_rfl) (by kernel_rfl) ((slices_ContainsFunc_at_IsProblem_1.run k a.1 a.2).trans hr)⟩

def impl_IsProblem.B (k : Nat) (a0 : List (List Int)) (a1 : List (List Int)) : Option (Bool) :=
  (impl_within.f (a0.length : Int) 1 4).bind fun t1 => (bif !t1 then some false else ((impl_Problem_metric.f a0 a1).bind fun t2 => ((impl_IsMetric.f k t2).bind fun t3 => (bif !t3 then some false else ((impl_within.f (a1.length : Int) 1 4).bind fun t4 => (bif !t4 then some false else ((slices_ContainsFunc_at_IsProblem_1.f k a1 (a0.length : Int)).bind fun t5 => some (!t5))))))))
def impl_IsProblem.f (k : Nat) (a0 : List (List Int)) (a1 : List (List Int)) : Option (Bool) := impl_IsProblem.B k a0 a1
def impl_IsProblem.ent : Ent := ⟨20, [.agg [.h (.list (.list (.int .i64))), .h (.list (.list (.int .i64)))]], [], .h (.bool), [], 33⟩
abbrev impl_IsProblem.ts : List Ty := [.list (.list (.int .i64)), .list (.list (.int .i64))]
abbrev impl_IsProblem.rs : List Ty := [.bool]
noncomputable def impl_IsProblem.E (k : Nat) : Env :=
  ⟨tab, 28, impl_IsProblem.ent, impl_IsProblem.rs, [impl_within.ent, impl_Problem_metric.ent, impl_IsMetric.ent, slices_ContainsFunc_at_IsProblem_1.ent], ctOf [(18, mkF impl_within.ts impl_within.rs fun a => impl_within.f a.1 a.2.1 a.2.2),
    (19, mkF impl_Problem_metric.ts impl_Problem_metric.rs fun a => impl_Problem_metric.f a.1 a.2),
    (25, mkF impl_IsMetric.ts impl_IsMetric.rs fun a => impl_IsMetric.f k a),
    (32, mkF slices_ContainsFunc_at_IsProblem_1.ts slices_ContainsFunc_at_IsProblem_1.rs fun a => slices_ContainsFunc_at_IsProblem_1.f k a.1 a.2)], [], [.tmp 2]⟩
theorem impl_IsProblem.h (k : Nat) (R : List Item → St → Option (PD impl_IsProblem.rs)) (a0 : List (List Int)) (a1 : List (List Int)) : run (impl_IsProblem.E k) R 4000 true [.code (bodyOf Tryz.f20)] (stA (impl_IsProblem.E k) [.v (.list (.list (.int .i64))) a0, .v (.list (.list (.int .i64))) a1]) = impl_IsProblem.B k a0 a1 := by kernel_rfl
theorem impl_IsProblem.eok (k : Nat) : EOk Tryz.prog (impl_IsProblem.E k) Tryz.f20 :=
  ⟨Tryz.func20, Tryz.ntmps20, by kernel_rfl, tab_ok, mixed, cuts_of (by kernel_rfl), Tab.ok (.cons (impl_within.ok) (by kernel_rfl) (.cons (impl_Problem_metric.ok) (by kernel_rfl) (.cons (impl_IsMetric.ok k) (by kernel_rfl) (.cons (slices_ContainsFunc_at_IsProblem_1.ok k) (by kernel_rfl) .nil)))), by kernel_rfl⟩
theorem impl_IsProblem.run (k : Nat) (a0 : List (List Int)) (a1 : List (List Int)): FF (impl_IsProblem.E k) 1 [.code (bodyOf Tryz.f20)] (stA (impl_IsProblem.E k) [.v (.list (.list (.int .i64))) a0, .v (.list (.list (.int .i64))) a1]) = impl_IsProblem.f k a0 a1 :=
  (FF_succ ..).trans (impl_IsProblem.h k (fun t s => FF (impl_IsProblem.E k) 0 t s) a0 a1)
theorem impl_IsProblem.ok (k : Nat) : FnOK Tryz.prog impl_IsProblem.ent impl_IsProblem.ts impl_IsProblem.rs fun a => impl_IsProblem.f k a.1 a.2 :=
  ⟨hasBody_of Tryz.func20 (by kernel_rfl), by kernel_rfl, by kernel_rfl, fun a r hr => good_of (E := (impl_IsProblem.E k)) (k := 1) (xs := encL impl_IsProblem.ts a) (impl_IsProblem.eok k) (body := (bodyOf Tryz.f20)) (by kernel_rfl) (by kernel_rfl) ((impl_IsProblem.run k a.1 a.2).trans hr)⟩

def impl_areWeights_1.B (a0 : Int) (a1 : Int) : Option (Bool) :=
  (impl_within.f a0 a1 9).bind fun t1 => some (!t1)
def impl_areWeights_1.f (a0 : Int) (a1 : Int) : Option (Bool) := impl_areWeights_1.B a0 a1
def impl_areWeights_1.ent : Ent := ⟨98, [.h (.int .i64), .rp [.h (.int .i64)]], [], .h (.bool), [], 34⟩
abbrev impl_areWeights_1.ts : List Ty := [.int .i64, .int .i64]
abbrev impl_areWeights_1.rs : List Ty := [.bool]
noncomputable def impl_areWeights_1.E : Env :=
  ⟨tab, 8, impl_areWeights_1.ent, impl_areWeights_1.rs, [impl_within.ent], ctOf [(18, mkF impl_within.ts impl_within.rs fun a => impl_within.f a.1 a.2.1 a.2.2)], [], [.tmp 3]⟩
theorem impl_areWeights_1.h (R : List Item → St → Option (PD impl_areWeights_1.rs)) (a0 : Int) (a1 : Int) : run (impl_areWeights_1.E) R 4000 true [.code (bodyOf Tryz.f98)] (stA (impl_areWeights_1.E) [.v (.int .i64) a0, .v (.int .i64) a1]) = impl_areWeights_1.B a0 a1 := by kernel_rfl
theorem impl_areWeights_1.eok : EOk Tryz.prog (impl_areWeights_1.E) Tryz.f98 :=
  ⟨Tryz.func98, Tryz.ntmps98, by kernel_rfl, tab_ok, mixed, cuts_of (by kernel_rfl), Tab.ok (.cons (impl_within.ok) (by kernel_rfl) .nil), by kernel_rfl⟩
theorem impl_areWeights_1.run (a0 : Int) (a1 : Int): FF (impl_areWeights_1.E) 1 [.code (bodyOf Tryz.f98)] (stA (impl_areWeights_1.E) [.v (.int .i64) a0, .v (.int .i64) a1]) = impl_areWeights_1.f a0 a1 :=
  (FF_succ ..).trans (impl_areWeights_1.h (fun t s => FF (impl_areWeights_1.E) 0 t s) a0 a1)
theorem impl_areWeights_1.ok : FnOK Tryz.prog impl_areWeights_1.ent impl_areWeights_1.ts impl_areWeights_1.rs fun a => impl_areWeights_1.f a.1 a.2 :=
  ⟨hasBody_of Tryz.func98 (by kernel_rfl), by kernel_rfl, by kernel_rfl, fun a r hr => good_of (E := (impl_areWeights_1.E)) (k := 1) (xs := encL impl_areWeights_1.ts a) (impl_areWeights_1.eok) (body := (bodyOf Tryz.f98)) (by kernel_rfl) (by kernel_rfl) ((impl_areWeights_1.run a.1 a.2).trans hr)⟩

def slices_IndexFunc_at_areWeights_1.B2 (k : Nat) (r2 : List Int → Int → Int → Int → Option (Int)) (x0 : List Int) (x1_0_0 : Int) (x7 : Int) (x8 : Int) : Option (Int) :=
  bif decide (x8 < x7) then (if (0 : Int) ≤ x8 ∧ x8 < (x0.length : Int) then ((impl_areWeights_1.f (x0.getD x8.toNat 0) x1_0_0).bind fun t1 => (bif t1 then some x8 else (r2 x0 x1_0_0 x7 (w64 (x8 + 1))))) else none) else some (-1)
def slices_IndexFunc_at_areWeights_1.B (k : Nat) (r2 : List Int → Int → Int → Int → Option (Int)) (a0 : List Int) (a1 : Int) : Option (Int) :=
  r2 a0 a1 (a0.length : Int) 0
def slices_IndexFunc_at_areWeights_1.bs (k : Nat) : Nat → (List Int → Int → Int → Int → Option (Int))
  | 0 => (fun _ _ _ _ => none)
  | n + 1 => (slices_IndexFunc_at_areWeights_1.B2 k ((slices_IndexFunc_at_areWeights_1.bs k n)))
def slices_IndexFunc_at_areWeights_1.f (k : Nat) (a0 : List Int) (a1 : Int) : Option (Int) := slices_IndexFunc_at_areWeights_1.B k ((slices_IndexFunc_at_areWeights_1.bs k k)) a0 a1
def slices_IndexFunc_at_areWeights_1.ent : Ent := ⟨97, [.h (.list (.int .i64)), .fn 98 [] [.rp [.h (.int .i64)]]], [], .h (.int .i64), [], 35⟩
abbrev slices_IndexFunc_at_areWeights_1.ts : List Ty := [.list (.int .i64), .int .i64]
abbrev slices_IndexFunc_at_areWeights_1.rs : List Ty := [.int .i64]
def slices_IndexFunc_at_areWeights_1.c2 : Cut := ⟨2, [(0, .h (.list (.int .i64))), (1, .fn 98 [] [.rp [.h (.int .i64)]]), (7, .h (.int .i64)), (8, .h (.int .i64))], []⟩
noncomputable def slices_IndexFunc_at_areWeights_1.E (k : Nat) : Env :=
  ⟨tab, 19, slices_IndexFunc_at_areWeights_1.ent, slices_IndexFunc_at_areWeights_1.rs, [impl_areWeights_1.ent], ctOf [(34, mkF impl_areWeights_1.ts impl_areWeights_1.rs fun a => impl_areWeights_1.f a.1 a.2)], [slices_IndexFunc_at_areWeights_1.c2], [.tmp 4]⟩
noncomputable def slices_IndexFunc_at_areWeights_1.S2 : List Item := stk (bodyOf Tryz.f97) 2
noncomputable def slices_IndexFunc_at_areWeights_1.m2 (x0 : List Int) (x1_0_0 : Int) (x7 : Int) (x8 : Int) : St := mkS slices_IndexFunc_at_areWeights_1.c2 [.v (.list (.int .i64)) x0, .v (.int .i64) x1_0_0, .v (.int .i64) x7, .v (.int .i64) x8]
theorem slices_IndexFunc_at_areWeights_1.h2 (k : Nat) (R : List Item → St → Option (PD slices_IndexFunc_at_areWeights_1.rs)) (x0 : List Int) (x1_0_0 : Int) (x7 : Int) (x8 : Int) : run (slices_IndexFunc_at_areWeights_1.E k) R 4000 true slices_IndexFunc_at_areWeights_1.S2 (slices_IndexFunc_at_areWeights_1.m2 x0 x1_0_0 x7 x8) = slices_IndexFunc_at_areWeights_1.B2 k (fun x0 x1_0_0 x7 x8 => R slices_IndexFunc_at_areWeights_1.S2 (slices_IndexFunc_at_areWeights_1.m2 x0 x1_0_0 x7 x8)) x0 x1_0_0 x7 x8 := by kernel_rfl
theorem slices_IndexFunc_at_areWeights_1.h (k : Nat) (R : List Item → St → Option (PD slices_IndexFunc_at_areWeights_1.rs)) (a0 : List Int) (a1 : Int) : run (slices_IndexFunc_at_areWeights_1.E k) R 4000 true [.code (bodyOf Tryz.f97)] (stA (slices_IndexFunc_at_areWeights_1.E k) [.v (.list (.int .i64)) a0, .v (.int .i64) a1]) = slices_IndexFunc_at_areWeights_1.B k (fun x0 x1_0_0 x7 x8 => R slices_IndexFunc_at_areWeights_1.S2 (slices_IndexFunc_at_areWeights_1.m2 x0 x1_0_0 x7 x8)) a0 a1 := by kernel_rfl
theorem slices_IndexFunc_at_areWeights_1.eok (k : Nat) : EOk Tryz.prog (slices_IndexFunc_at_areWeights_1.E k) Tryz.f97 :=
  ⟨Tryz.func97, Tryz.ntmps97, by kernel_rfl, tab_ok, mixed, cuts_of (by kernel_rfl), Tab.ok (.cons (impl_areWeights_1.ok) (by kernel_rfl) .nil), by kernel_rfl⟩
theorem slices_IndexFunc_at_areWeights_1.ff (k : Nat) : ∀ n : Nat, (fun x0 x1_0_0 x7 x8 => FF (slices_IndexFunc_at_areWeights_1.E k) n slices_IndexFunc_at_areWeights_1.S2 (slices_IndexFunc_at_areWeights_1.m2 x0 x1_0_0 x7 x8)) = slices_IndexFunc_at_areWeights_1.bs k n
  | 0 => rfl
  | n + 1 => by
    show (fun x0 x1_0_0 x7 x8 => FF (slices_IndexFunc_at_areWeights_1.E k) (n + 1) slices_IndexFunc_at_areWeights_1.S2 (slices_IndexFunc_at_areWeights_1.m2 x0 x1_0_0 x7 x8)) = (slices_IndexFunc_at_areWeights_1.B2 k ((slices_IndexFunc_at_areWeights_1.bs k n)))
    rw [← slices_IndexFunc_at_areWeights_1.ff k n]
    exact (funext fun x0 => funext fun x1_0_0 => funext fun x7 => funext fun x8 => (FF_succ ..).trans (slices_IndexFunc_at_areWeights_1.h2 k (fun t s => FF (slices_IndexFunc_at_areWeights_1.E k) n t s) x0 x1_0_0 x7 x8))
theorem slices_IndexFunc_at_areWeights_1.run (k : Nat) (a0 : List Int) (a1 : Int): FF (slices_IndexFunc_at_areWeights_1.E k) (k + 1) [.code (bodyOf Tryz.f97)] (stA (slices_IndexFunc_at_areWeights_1.E k) [.v (.list (.int .i64)) a0, .v (.int .i64) a1]) = slices_IndexFunc_at_areWeights_1.f k a0 a1 :=
  (FF_succ ..).trans ((slices_IndexFunc_at_areWeights_1.h k (fun t s => FF (slices_IndexFunc_at_areWeights_1.E k) k t s) a0 a1).trans (by
    show _ = slices_IndexFunc_at_areWeights_1.B k ((slices_IndexFunc_at_areWeights_1.bs k k)) a0 a1
    rw [← slices_IndexFunc_at_areWeights_1.ff k k]))
theorem slices_IndexFunc_at_areWeights_1.ok (k : Nat) : FnOK Tryz.prog slices_IndexFunc_at_areWeights_1.ent slices_IndexFunc_at_areWeights_1.ts slices_IndexFunc_at_areWeights_1.rs fun a => slices_IndexFunc_at_areWeights_1.f k a.1 a.2 :=
  ⟨hasBody_of Tryz.func97 (by kernel_rfl), by kernel_rfl, by kernel_rfl, fun a r hr => good_of (E := (slices_IndexFunc_at_areWeights_1.E k)) (k := (k + 1)) (xs := encL slices_IndexFunc_at_areWeights_1.ts a) (slices_IndexFunc_at_areWeights_1.eok k) (body := (bodyOf Tryz.f97)) (by kernel_rfl) (by kernel_rfl) ((slices_IndexFunc_at_areWeights_1.run k a.1 a.2).trans hr)⟩

def slices_ContainsFunc_at_areWeights_1.B (k : Nat) (a0 : List Int) (a1 : Int) : Option (Bool) :=
  (slices_IndexFunc_at_areWeights_1.f k a0 a1).bind fun t1 => some (decide ((0 : Int) ≤ t1))
def slices_ContainsFunc_at_areWeights_1.f (k : Nat) (a0 : List Int) (a1 : Int) : Option (Bool) := slices_ContainsFunc_at_areWeights_1.B k a0 a1
def slices_ContainsFunc_at_areWeights_1.ent : Ent := ⟨61, [.h (.list (.int .i64)), .fn 98 [] [.rp [.h (.int .i64)]]], [], .h (.bool), [], 36⟩
abbrev slices_ContainsFunc_at_areWeights_1.ts : List Ty := [.list (.int .i64), .int .i64]
abbrev slices_ContainsFunc_at_areWeights_1.rs : List Ty := [.bool]
noncomputable def slices_ContainsFunc_at_areWeights_1.E (k : Nat) : Env :=
  ⟨tab, 9, slices_ContainsFunc_at_areWeights_1.ent, slices_ContainsFunc_at_areWeights_1.rs, [slices_IndexFunc_at_areWeights_1.ent], ctOf [(35, mkF slices_IndexFunc_at_areWeights_1.ts slices_IndexFunc_at_areWeights_1.rs fun a => slices_IndexFunc_at_areWeights_1.f k a.1 a.2)], [], [.tmp 4]⟩
theorem slices_ContainsFunc_at_areWeights_1.h (k : Nat) (R : List Item → St → Option (PD slices_ContainsFunc_at_areWeights_1.rs)) (a0 : List Int) (a1 : Int) : run (slices_ContainsFunc_at_areWeights_1.E k) R 4000 true [.code (bodyOf Tryz.f61)] (stA (slices_ContainsFunc_at_areWeights_1.E k) [.v (.list (.int .i64)) a0, .v (.int .i64) a1]) = slices_ContainsFunc_at_areWeights_1.B k a0 a1 := by kernel_rfl
theorem slices_ContainsFunc_at_areWeights_1.eok (k : Nat) : EOk Tryz.prog (slices_ContainsFunc_at_areWeights_1.E k) Tryz.f61 :=
  ⟨Tryz.func61, Tryz.ntmps61, by kernel_rfl, tab_ok, mixed, cuts_of (by kernel_rfl), Tab.ok (.cons (slices_IndexFunc_at_areWeights_1.ok k) (by kernel_rfl) .nil), by kernel_rfl⟩
theorem slices_ContainsFunc_at_areWeights_1.run (k : Nat) (a0 : List Int) (a1 : Int): FF (slices_ContainsFunc_at_areWeights_1.E k) 1 [.code (bodyOf Tryz.f61)] (stA (slices_ContainsFunc_at_areWeights_1.E k) [.v (.list (.int .i64)) a0, .v (.int .i64) a1]) = slices_ContainsFunc_at_areWeights_1.f k a0 a1 :=
  (FF_succ ..).trans (slices_ContainsFunc_at_areWeights_1.h k (fun t s => FF (slices_ContainsFunc_at_areWeights_1.E k) 0 t s) a0 a1)
theorem slices_ContainsFunc_at_areWeights_1.ok (k : Nat) : FnOK Tryz.prog slices_ContainsFunc_at_areWeights_1.ent slices_ContainsFunc_at_areWeights_1.ts slices_ContainsFunc_at_areWeights_1.rs fun a => slices_ContainsFunc_at_areWeights_1.f k a.1 a.2 :=
  ⟨hasBody_of Tryz.func61 (by kernel_rfl), by kernel_rfl, by kernel_rfl, fun a r hr => good_of (E := (slices_ContainsFunc_at_areWeights_1.E k)) (k := 1) (xs := encL slices_ContainsFunc_at_areWeights_1.ts a) (slices_ContainsFunc_at_areWeights_1.eok k) (body := (bodyOf Tryz.f61)) (by kernel_rfl) (by kernel_rfl) ((slices_ContainsFunc_at_areWeights_1.run k a.1 a.2).trans hr)⟩

def impl_areWeights.B (k : Nat) (a0 : List Int) (a1 : Int) : Option (Bool) :=
  (slices_ContainsFunc_at_areWeights_1.f k a0 a1).bind fun t1 => some (!t1)
def impl_areWeights.f (k : Nat) (a0 : List Int) (a1 : Int) : Option (Bool) := impl_areWeights.B k a0 a1
def impl_areWeights.ent : Ent := ⟨64, [.h (.list (.int .i64)), .h (.int .i64)], [], .h (.bool), [], 37⟩
abbrev impl_areWeights.ts : List Ty := [.list (.int .i64), .int .i64]
abbrev impl_areWeights.rs : List Ty := [.bool]
noncomputable def impl_areWeights.E (k : Nat) : Env :=
  ⟨tab, 9, impl_areWeights.ent, impl_areWeights.rs, [slices_ContainsFunc_at_areWeights_1.ent], ctOf [(36, mkF slices_ContainsFunc_at_areWeights_1.ts slices_ContainsFunc_at_areWeights_1.rs fun a => slices_ContainsFunc_at_areWeights_1.f k a.1 a.2)], [], [.tmp 4]⟩
theorem impl_areWeights.h (k : Nat) (R : List Item → St → Option (PD impl_areWeights.rs)) (a0 : List Int) (a1 : Int) : run (impl_areWeights.E k) R 4000 true [.code (bodyOf Tryz.f64)] (stA (impl_areWeights.E k) [.v (.list (.int .i64)) a0, .v (.int .i64) a1]) = impl_areWeights.B k a0 a1 := by kernel_rfl
theorem impl_areWeights.eok (k : Nat) : EOk Tryz.prog (impl_areWeights.E k) Tryz.f64 :=
  ⟨Tryz.func64, Tryz.ntmps64, by kernel_rfl, tab_ok, mixed, cuts_of (by kernel_rfl), Tab.ok (.cons (slices_ContainsFunc_at_areWeights_1.ok k) (by kernel_rfl) .nil), by kernel_rfl⟩
theorem impl_areWeights.run (k : Nat) (a0 : List Int) (a1 : Int): FF (impl_areWeights.E k) 1 [.code (bodyOf Tryz.f64)] (stA (impl_areWeights.E k) [.v (.list (.int .i64)) a0, .v (.int .i64) a1]) = impl_areWeights.f k a0 a1 :=
  (FF_succ ..).trans (impl_areWeights.h k (fun t s => FF (impl_areWeights.E k) 0 t s) a0 a1)
theorem impl_areWeights.ok (k : Nat) : FnOK Tryz.prog impl_areWeights.ent impl_areWeights.ts impl_areWeights.rs fun a => impl_areWeights.f k a.1 a.2 :=
  ⟨hasBody_of Tryz.func64 (by kernel_rfl), by kernel_rfl, by kernel_rfl, fun a r hr => good_of (E := (impl_areWeights.E k)) (k := 1) (xs := encL impl_areWeights.ts a) (impl_areWeights.eok k) (body := (bodyOf Tryz.f64)) (by kernel_rfl) (by kernel_rfl) ((impl_areWeights.run k a.1 a.2).trans hr)⟩

def impl_areBelow_1.B (a0 : Int) (a1 : Int) : Option (Bool) :=
  (impl_within.f a0 0 (w64 (a1 - 1))).bind fun t1 => some (!t1)
def impl_areBelow_1.f (a0 : Int) (a1 : Int) : Option (Bool) := impl_areBelow_1.B a0 a1
def impl_areBelow_1.ent : Ent := ⟨108, [.h (.int .i64), .rp [.h (.int .i64)]], [], .h (.bool), [], 38⟩
abbrev impl_areBelow_1.ts : List Ty := [.int .i64, .int .i64]
abbrev impl_areBelow_1.rs : List Ty := [.bool]
noncomputable def impl_areBelow_1.E : Env :=
  ⟨tab, 9, impl_areBelow_1.ent, impl_areBelow_1.rs, [impl_within.ent], ctOf [(18, mkF impl_within.ts impl_within.rs fun a => impl_within.f a.1 a.2.1 a.2.2)], [], [.tmp 3]⟩
theorem impl_areBelow_1.h (R : List Item → St → Option (PD impl_areBelow_1.rs)) (a0 : Int) (a1 : Int) : run (impl_areBelow_1.E) R 4000 true [.code (bodyOf Tryz.f108)] (stA (impl_areBelow_1.E) [.v (.int .i64) a0, .v (.int .i64) a1]) = impl_areBelow_1.B a0 a1 := by kernel_rfl
theorem impl_areBelow_1.eok : EOk Tryz.prog (impl_areBelow_1.E) Tryz.f108 :=
  ⟨Tryz.func108, Tryz.ntmps108, by kernel_rfl, tab_ok, mixed, cuts_of (by kernel_rfl), Tab.ok (.cons (impl_within.ok) (by kernel_rfl) .nil), by kernel_rfl⟩
theorem impl_areBelow_1.run (a0 : Int) (a1 : Int): FF (impl_areBelow_1.E) 1 [.code (bodyOf Tryz.f108)] (stA (impl_areBelow_1.E) [.v (.int .i64) a0, .v (.int .i64) a1]) = impl_areBelow_1.f a0 a1 :=
  (FF_succ ..).trans (impl_areBelow_1.h (fun t s => FF (impl_areBelow_1.E) 0 t s) a0 a1)
theorem impl_areBelow_1.ok : FnOK Tryz.prog impl_areBelow_1.ent impl_areBelow_1.ts impl_areBelow_1.rs fun a => impl_areBelow_1.f a.1 a.2 :=
  ⟨hasBody_of Tryz.func108 (by kernel_rfl), by kernel_rfl, by kernel_rfl, fun a r hr => good_of (E := (impl_areBelow_1.E)) (k := 1) (xs := encL impl_areBelow_1.ts a) (impl_areBelow_1.eok) (body := (bodyOf Tryz.f108)) (by kernel_rfl) (by kernel_rfl) ((impl_areBelow_1.run a.1 a.2).trans hr)⟩

def slices_IndexFunc_at_areBelow_1.B2 (k : Nat) (r2 : List Int → Int → Int → Int → Option (Int)) (x0 : List Int) (x1_0_0 : Int) (x7 : Int) (x8 : Int) : Option (Int) :=
  bif decide (x8 < x7) then (if (0 : Int) ≤ x8 ∧ x8 < (x0.length : Int) then ((impl_areBelow_1.f (x0.getD x8.toNat 0) x1_0_0).bind fun t1 => (bif t1 then some x8 else (r2 x0 x1_0_0 x7 (w64 (x8 + 1))))) else none) else some (-1)
def slices_IndexFunc_at_areBelow_1.B (k : Nat) (r2 : List Int → Int → Int → Int → Option (Int)) (a0 : List Int) (a1 : Int) : Option (Int) :=
  r2 a0 a1 (a0.length : Int) 0
def slices_IndexFunc_at_areBelow_1.bs (k : Nat) : Nat → (List Int → Int → Int → Int → Option (Int))
  | 0 => (fun _ _ _ _ => none)
  | n + 1 => (slices_IndexFunc_at_areBelow_1.B2 k ((slices_IndexFunc_at_areBelow_1.bs k n)))
def slices_IndexFunc_at_areBelow_1.f (k : Nat) (a0 : List Int) (a1 : Int) : Option (Int) := slices_IndexFunc_at_areBelow_1.B k ((slices_IndexFunc_at_areBelow_1.bs k k)) a0 a1
def slices_IndexFunc_at_areBelow_1.ent : Ent := ⟨97, [.h (.list (.int .i64)), .fn 108 [] [.rp [.h (.int .i64)]]], [], .h (.int .i64), [], 39⟩
abbrev slices_IndexFunc_at_areBelow_1.ts : List Ty := [.list (.int .i64), .int .i64]
abbrev slices_IndexFunc_at_areBelow_1.rs : List Ty := [.int .i64]
def slices_IndexFunc_at_areBelow_1.c2 : Cut := ⟨2, [(0, .h (.list (.int .i64))), (1, .fn 108 [] [.rp [.h (.int .i64)]]), (7, .h (.int .i64)), (8, .h (.int .i64))], []⟩
noncomputable def slices_IndexFunc_at_areBelow_1.E (k : Nat) : Env :=
  ⟨tab, 19, slices_IndexFunc_at_areBelow_1.ent, slices_IndexFunc_at_areBelow_1.rs, [impl_areBelow_1.ent], ctOf [(38, mkF impl_areBelow_1.ts impl_areBelow_1.rs fun a => impl_areBelow_1.f a.1 a.2)], [slices_IndexFunc_at_areBelow_1.c2], [.tmp 4]⟩
noncomputable def slices_IndexFunc_at_areBelow_1.S2 : List Item := stk (bodyOf Tryz.f97) 2
noncomputable def slices_IndexFunc_at_areBelow_1.m2 (x0 : List Int) (x1_0_0 : Int) (x7 : Int) (x8 : Int) : St := mkS slices_IndexFunc_at_areBelow_1.c2 [.v (.list (.int .i64)) x0, .v (.int .i64) x1_0_0, .v (.int .i64) x7, .v (.int .i64) x8]
theorem slices_IndexFunc_at_areBelow_1.h2 (k : Nat) (R : List Item → St → Option (PD slices_IndexFunc_at_areBelow_1.rs)) (x0 : List Int) (x1_0_0 : Int) (x7 : Int) (x8 : Int) : run (slices_IndexFunc_at_areBelow_1.E k) R 4000 true slices_IndexFunc_at_areBelow_1.S2 (slices_IndexFunc_at_areBelow_1.m2 x0 x1_0_0 x7 x8) = slices_IndexFunc_at_areBelow_1.B2 k (fun x0 x1_0_0 x7 x8 => R slices_IndexFunc_at_areBelow_1.S2 (slices_IndexFunc_at_areBelow_1.m2 x0 x1_0_0 x7 x8)) x0 x1_0_0 x7 x8 := by kernel_rfl
theorem slices_IndexFunc_at_areBelow_1.h (k : Nat) (R : List Item → St → Option (PD slices_IndexFunc_at_areBelow_1.rs)) (a0 : List Int) (a1 : Int) : run (slices_IndexFunc_at_areBelow_1.E k) R 4000 true [.code (bodyOf Tryz.f97)] (stA (slices_IndexFunc_at_areBelow_1.E k) [.v (.list (.int .i64)) a0, .v (.int .i64) a1]) = slices_IndexFunc_at_areBelow_1.B k (fun x0 x1_0_0 x7 x8 => R slices_IndexFunc_at_areBelow_1.S2 (slices_IndexFunc_at_areBelow_1.m2 x0 x1_0_0 x7 x8)) a0 a1 := by kernel_rfl
theorem slices_IndexFunc_at_areBelow_1.eok (k : Nat) : EOk Tryz.prog (slices_IndexFunc_at_areBelow_1.E k) Tryz.f97 :=
  ⟨Tryz.func97, Tryz.ntmps97, by kernel_rfl, tab_ok, mixed, cuts_of (by kernel_rfl), Tab.ok (.cons (impl_areBelow_1.ok) (by kernel_rfl) .nil), by kernel_rfl⟩
theorem slices_IndexFunc_at_areBelow_1.ff (k : Nat) : ∀ n : Nat, (fun x0 x1_0_0 x7 x8 => FF (slices_IndexFunc_at_areBelow_1.E k) n slices_IndexFunc_at_areBelow_1.S2 (slices_IndexFunc_at_areBelow_1.m2 x0 x1_0_0 x7 x8)) = slices_IndexFunc_at_areBelow_1.bs k n
  | 0 => rfl
  | n + 1 => by
    show (fun x0 x1_0_0 x7 x8 => FF (slices_IndexFunc_at_areBelow_1.E k) (n + 1) slices_IndexFunc_at_areBelow_1.S2 (slices_IndexFunc_at_areBelow_1.m2 x0 x1_0_0 x7 x8)) = (slices_IndexFunc_at_areBelow_1.B2 k ((slices_IndexFunc_at_areBelow_1.bs k n)))
    rw [← slices_IndexFunc_at_areBelow_1.ff k n]
    exact (funext fun x0 => funext fun x1_0_0 => funext fun x7 => funext fun x8 => (FF_succ ..).trans (slices_IndexFunc_at_areBelow_1.h2 k (fun t s => FF (slices_IndexFunc_at_areBelow_1.E k) n t s) x0 x1_0_0 x7 x8))
theorem slices_IndexFunc_at_areBelow_1.run (k : Nat) (a0 : List Int) (a1 : Int): FF (slices_IndexFunc_at_areBelow_1.E k) (k + 1) [.code (bodyOf Tryz.f97)] (stA (slices_IndexFunc_at_areBelow_1.E k) [.v (.list (.int .i64)) a0, .v (.int .i64) a1]) = slices_IndexFunc_at_areBelow_1.f k a0 a1 :=
  (FF_succ ..).trans ((slices_IndexFunc_at_areBelow_1.h k (fun t s => FF (slices_IndexFunc_at_areBelow_1.E k) k t s) a0 a1).trans (by
    show _ = slices_IndexFunc_at_areBelow_1.B k ((slices_IndexFunc_at_areBelow_1.bs k k)) a0 a1
    rw [← slices_IndexFunc_at_areBelow_1.ff k k]))
theorem slices_IndexFunc_at_areBelow_1.ok (k : Nat) : FnOK Tryz.prog slices_IndexFunc_at_areBelow_1.ent slices_IndexFunc_at_areBelow_1.ts slices_IndexFunc_at_areBelow_1.rs fun a => slices_IndexFunc_at_areBelow_1.f k a.1 a.2 :=
  ⟨hasBody_of Tryz.func97 (by kernel_rfl), by kernel_rfl, by kernel_rfl, fun a r hr => good_of (E := (slices_IndexFunc_at_areBelow_1.E k)) (k := (k + 1)) (xs := encL slices_IndexFunc_at_areBelow_1.ts a) (slices_IndexFunc_at_areBelow_1.eok k) (body := (bodyOf Tryz.f97)) (by kernel_rfl) (by kernel_rfl) ((slices_IndexFunc_at_areBelow_1.run k a.1 a.2).trans hr)⟩

def slices_ContainsFunc_at_areBelow_1.B (k : Nat) (a0 : List Int) (a1 : Int) : Option (Bool) :=
  (slices_IndexFunc_at_areBelow_1.f k a0 a1).bind fun t1 => some (decide ((0 : Int) ≤ t1))
def slices_ContainsFunc_at_areBelow_1.f (k : Nat) (a0 : List Int) (a1 : Int) : Option (Bool) := slices_ContainsFunc_at_areBelow_1.B k a0 a1
def slices_ContainsFunc_at_areBelow_1.ent : Ent := ⟨61, [.h (.list (.int .i64)), .fn 108 [] [.rp [.h (.int .i64)]]], [], .h (.bool), [], 40⟩
abbrev slices_ContainsFunc_at_areBelow_1.ts : List Ty := [.list (.int .i64), .int .i64]
abbrev slices_ContainsFunc_at_areBelow_1.rs : List Ty := [.bool]
noncomputable def slices_ContainsFunc_at_areBelow_1.E (k : Nat) : Env :=
  ⟨tab, 9, slices_ContainsFunc_at_areBelow_1.ent, slices_ContainsFunc_at_areBelow_1.rs, [slices_IndexFunc_at_areBelow_1.ent], ctOf [(39, mkF slices_IndexFunc_at_areBelow_1.ts slices_IndexFunc_at_areBelow_1.rs fun a => slices_IndexFunc_at_areBelow_1.f k a.1 a.2)], [], [.tmp 4]⟩
theorem slices_ContainsFunc_at_areBelow_1.h (k : Nat) (R : List Item → St → Option (PD slices_ContainsFunc_at_areBelow_1.rs)) (a0 : List Int) (a1 : Int) : run (slices_ContainsFunc_at_areBelow_1.E k) R 4000 true [.code (bodyOf Tryz.f61)] (stA (slices_ContainsFunc_at_areBelow_1.E k) [.v (.list (.int .i64)) a0, .v (.int .i64) a1]) = slices_ContainsFunc_at_areBelow_1.B k a0 a1 := by kernel_rfl
theorem slices_ContainsFunc_at_areBelow_1.eok (k : Nat) : EOk Tryz.prog (slices_ContainsFunc_at_areBelow_1.E k) Tryz.f61 :=
  ⟨Tryz.func61, Tryz.ntmps61, by kernel_rfl, tab_ok, mixed, cuts_of (by kernel_rfl), Tab.ok (.cons (slices_IndexFunc_at_areBelow_1.ok k) (by kernel_rfl) .nil), by kernel_rfl⟩
theorem slices_ContainsFunc_at_areBelow_1.run (k : Nat) (a0 : List Int) (a1 : Int): FF (slices_ContainsFunc_at_areBelow_1.E k) 1 [.code (bodyOf Tryz.f61)] (stA (slices_ContainsFunc_at_areBelow_1.E k) [.v (.list (.int .i64)) a0, .v (.int .i64) a1]) = slices_ContainsFunc_at_areBelow_1.f k a0 a1 :=
  (FF_succ ..).trans (slices_ContainsFunc_at_areBelow_1.h k (fun t s => FF (slices_ContainsFunc_at_areBelow_1.E k) 0 t s) a0 a1)
theorem slices_ContainsFunc_at_areBelow_1.ok (k : Nat) : FnOK Tryz.prog slices_ContainsFunc_at_areBelow_1.ent slices_ContainsFunc_at_areBelow_1.ts slices_ContainsFunc_at_areBelow_1.rs fun a => slices_ContainsFunc_at_areBelow_1.f k a.1 a.2 :=
  ⟨hasBody_of Tryz.func61 (by kernel_rfl), by kernel_rfl, by kernel_rfl, fun a r hr => good_of (E := (slices_ContainsFunc_at_areBelow_1.E k)) (k := 1) (xs := encL slices_ContainsFunc_at_areBelow_1.ts a) (slices_ContainsFunc_at_areBelow_1.eok k) (body := (bodyOf Tryz.f61)) (by kernel_rfl) (by kernel_rfl) ((slices_ContainsFunc_at_areBelow_1.run k a.1 a.2).trans hr)⟩

def impl_areBelow.B (k : Nat) (a0 : Int) (a1 : List Int) : Option (Bool) :=
  (slices_ContainsFunc_at_areBelow_1.f k a1 a0).bind fun t1 => some (!t1)
def impl_areBelow.f (k : Nat) (a0 : Int) (a1 : List Int) : Option (Bool) := impl_areBelow.B k a0 a1
def impl_areBelow.ent : Ent := ⟨99, [.h (.int .i64), .h (.list (.int .i64))], [], .h (.bool), [], 41⟩
abbrev impl_areBelow.ts : List Ty := [.int .i64, .list (.int .i64)]
abbrev impl_areBelow.rs : List Ty := [.bool]
noncomputable def impl_areBelow.E (k : Nat) : Env :=
  ⟨tab, 9, impl_areBelow.ent, impl_areBelow.rs, [slices_ContainsFunc_at_areBelow_1.ent], ctOf [(40, mkF slices_ContainsFunc_at_areBelow_1.ts slices_ContainsFunc_at_areBelow_1.rs fun a => slices_ContainsFunc_at_areBelow_1.f k a.1 a.2)], [], [.tmp 4]⟩
theorem impl_areBelow.h (k : Nat) (R : List Item → St → Option (PD impl_areBelow.rs)) (a0 : Int) (a1 : List Int) : run (impl_areBelow.E k) R 4000 true [.code (bodyOf Tryz.f99)] (stA (impl_areBelow.E k) [.v (.int .i64) a0, .v (.list (.int .i64)) a1]) = impl_areBelow.B k a0 a1 := by kernel_rfl
theorem impl_areBelow.eok (k : Nat) : EOk Tryz.prog (impl_areBelow.E k) Tryz.f99 :=
  ⟨Tryz.func99, Tryz.ntmps99, by kernel_rfl, tab_ok, mixed, cuts_of (by kernel_rfl), Tab.ok (.cons (slices_ContainsFunc_at_areBelow_1.ok k) (by kernel_rfl) .nil), by kernel_rfl⟩
theorem impl_areBelow.run (k : Nat) (a0 : Int) (a1 : List Int): FF (impl_areBelow.E k) 1 [.code (bodyOf Tryz.f99)] (stA (impl_areBelow.E k) [.v (.int .i64) a0, .v (.list (.int .i64)) a1]) = impl_areBelow.f k a0 a1 :=
  (FF_succ ..).trans (impl_areBelow.h k (fun t s => FF (impl_areBelow.E k) 0 t s) a0 a1)
theorem impl_areBelow.ok (k : Nat) : FnOK Tryz.prog impl_areBelow.ent impl_areBelow.ts impl_areBelow.rs fun a => impl_areBelow.f k a.1 a.2 :=
  ⟨hasBody_of Tryz.func99 (by kernel_rfl), by kernel_rfl, by kernel_rfl, fun a r hr => good_of (E := (impl_areBelow.E k)) (k := 1) (xs := encL impl_areBelow.ts a) (impl_areBelow.eok k) (body := (bodyOf Tryz.f99)) (by kernel_rfl) (by kernel_rfl) ((impl_areBelow.run k a.1 a.2).trans hr)⟩

def impl_Problem_isSequence.B (k : Nat) (a0 : List (List Int)) (a1 : List (List Int)) (a2 : List Int) : Option (Bool) :=
  bif decide ((a2.length : Int) ≤ (60 : Int)) then ((impl_areBelow.f k (a1.length : Int) a2).bind fun t1 => some t1) else some false
def impl_Problem_isSequence.f (k : Nat) (a0 : List (List Int)) (a1 : List (List Int)) (a2 : List Int) : Option (Bool) := impl_Problem_isSequence.B k a0 a1 a2
def impl_Problem_isSequence.ent : Ent := ⟨66, [.agg [.h (.list (.list (.int .i64))), .h (.list (.list (.int .i64)))], .h (.list (.int .i64))], [], .h (.bool), [], 42⟩
abbrev impl_Problem_isSequence.ts : List Ty := [.list (.list (.int .i64)), .list (.list (.int .i64)), .list (.int .i64)]
abbrev impl_Problem_isSequence.rs : List Ty := [.bool]
noncomputable def impl_Problem_isSequence.E (k : Nat) : Env :=
  ⟨tab, 15, impl_Problem_isSequence.ent, impl_Problem_isSequence.rs, [impl_areBelow.ent], ctOf [(41, mkF impl_areBelow.ts impl_areBelow.rs fun a => impl_areBelow.f k a.1 a.2)], [], [.tmp 4]⟩
theorem impl_Problem_isSequence.h (k : Nat) (R : List Item → St → Option (PD impl_Problem_isSequence.rs)) (a0 : List (List Int)) (a1 : List (List Int)) (a2 : List Int) : run (impl_Problem_isSequence.E k) R 4000 true [.code (bodyOf Tryz.f66)] (stA (impl_Problem_isSequence.E k) [.v (.list (.list (.int .i64))) a0, .v (.list (.list (.int .i64))) a1, .v (.list (.int .i64)) a2]) = impl_Problem_isSequence.B k a0 a1 a2 := by kernel_rfl
theorem impl_Problem_isSequence.eok (k : Nat) : EOk Tryz.prog (impl_Problem_isSequence.E k) Tryz.f66 :=
  ⟨Tryz.func66, Tryz.ntmps66, by kernel_rfl, tab_ok, mixed, cuts_of (by kernel_rfl), Tab.ok (.cons (impl_areBelow.ok k) (by kernel_rfl) .nil), by kernel_rfl⟩
theorem impl_Problem_isSequence.run (k : Nat) (a0 : List (List Int)) (a1 : List (List Int)) (a2 : List Int): FF (impl_Problem_isSequence.E k) 1 [.code (bodyOf Tryz.f66)] (stA (impl_Problem_isSequence.E k) [.v (.list (.list (.int .i64))) a0, .v (.list (.list (.int .i64))) a1, .v (.list (.int .i64)) a2]) = impl_Problem_isSequence.f k a0 a1 a2 :=
  (FF_succ ..).trans (impl_Problem_isSequence.h k (fun t s => FF (impl_Problem_isSequence.E k) 0 t s) a0 a1 a2)
theorem impl_Problem_isSequence.ok (k : Nat) : FnOK Tryz.prog impl_Problem_isSequence.ent impl_Problem_isSequence.ts impl_Problem_isSequence.rs fun a => impl_Problem_isSequence.f k a.1 a.2.1 a.2.2 :=
  ⟨hasBody_of Tryz.func66 (by kernel_rfl), by kernel_rfl, by kernel_rfl, fun a r hr => good_of (E := (impl_Problem_isSequence.E k)) (k := 1) (xs := encL impl_Problem_isSequence.ts a) (impl_Problem_isSequence.eok k) (body := (bodyOf Tryz.f66)) (by kernel_rfl) (by kernel_rfl) ((impl_Problem_isSequence.run k a.1 a.2.1 a.2.2).trans hr)⟩

def impl_Problem_isChances_1.B (k : Nat) (a0 : List Int) (a1 : List Int) (a2 : List (List Int)) (a3 : List (List Int)) (a4 : List (List Int)) : Option (Bool) :=
  bif decide ((6 : Int) < (a0.length : Int)) then some true else (if (0 : Int) ≤ 0 ∧ (0 : Int) < (a2.length : Int) then (bif !decide ((a0.length : Int) = ((a2.getD 0 []).length : Int)) then some true else ((impl_Problem_isSequence.f k a3 a4 a0).bind fun t1 => some (!t1))) else none)
def impl_Problem_isChances_1.f (k : Nat) (a0 : List Int) (a1 : List Int) (a2 : List (List Int)) (a3 : List (List Int)) (a4 : List (List Int)) : Option (Bool) := impl_Problem_isChances_1.B k a0 a1 a2 a3 a4
def impl_Problem_isChances_1.ent : Ent := ⟨65, [.h (.list (.int .i64)), .rp [.h (.list (.int .i64)), .h (.list (.list (.int .i64)))], .rp [.h (.list (.list (.int .i64))), .h (.list (.list (.int .i64)))]], [], .h (.bool), [], 43⟩
abbrev impl_Problem_isChances_1.ts : List Ty := [.list (.int .i64), .list (.int .i64), .list (.list (.int .i64)), .list (.list (.int .i64)), .list (.list (.int .i64))]
abbrev impl_Problem_isChances_1.rs : List Ty := [.bool]
noncomputable def impl_Problem_isChances_1.E (k : Nat) : Env :=
  ⟨tab, 24, impl_Problem_isChances_1.ent, impl_Problem_isChances_1.rs, [impl_Problem_isSequence.ent], ctOf [(42, mkF impl_Problem_isSequence.ts impl_Problem_isSequence.rs fun a => impl_Problem_isSequence.f k a.1 a.2.1 a.2.2)], [], [.tmp 4]⟩
theorem impl_Problem_isChances_1.h (k : Nat) (R : List Item → St → Option (PD impl_Problem_isChances_1.rs)) (a0 : List Int) (a1 : List Int) (a2 : List (List Int)) (a3 : List (List Int)) (a4 : List (List Int)) : run (impl_Problem_isChances_1.E k) R 4000 true [.code (bodyOf Tryz.f65)] (stA (impl_Problem_isChances_1.E k) [.v (.list (.int .i64)) a0, .v (.list (.int .i64)) a1, .v (.list (.list (.int .i64))) a2, .v (.list (.list (.int .i64))) a3, .v (.list (.list (.int .i64))) a4]) = impl_Problem_isChances_1.B k a0 a1 a2 a3 a4 := by kernel_rfl
theorem impl_Problem_isChances_1.eok (k : Nat) : EOk Tryz.prog (impl_Problem_isChances_1.E k) Tryz.f65 :=
  ⟨Tryz.func65, Tryz.ntmps65, by kernel_rfl, tab_ok, mixed, cuts_of (by kernel_rfl), Tab.ok (.cons (impl_Problem_isSequence.ok k) (by kernel_rfl) .nil), by kernel_rfl⟩
theorem impl_Problem_isChances_1.run (k : Nat) (a0 : List Int) (a1 : List Int) (a2 : List (List Int)) (a3 : List (List Int)) (a4 : List (List Int)): FF (impl_Problem_isChances_1.E k) 1 [.code (bodyOf Tryz.f65)] (stA (impl_Problem_isChances_1.E k) [.v (.list (.int .i64)) a0, .v (.list (.int .i64)) a1, .v (.list (.list (.int .i64))) a2, .v (.list (.list (.int .i64))) a3, .v (.list (.list (.int .i64))) a4]) = impl_Problem_isChances_1.f k a0 a1 a2 a3 a4 :=
  (FF_succ ..).trans (impl_Problem_isChances_1.h k (fun t s => FF (impl_Problem_isChances_1.E k) 0 t s) a0 a1 a2 a3 a4)
theorem impl_Problem_isChances_1.ok (k : Nat) : FnOK Tryz.prog impl_Problem_isChances_1.ent impl_Problem_isChances_1.ts impl_Problem_isChances_1.rs fun a => impl_Problem_isChances_1.f k a.1 a.2.1 a.2.2.1 a.2.2.2.1 a.2.2.2.2 :=
  ⟨hasBody_of Tryz.func65 (by kernel_rfl), by kernel_rfl, by kernel_rfl, fun a r hr => good_of (E := (impl_Problem_isChances_1.E k)) (k := 1) (xs := encL impl_Problem_isChances_1.ts a) (impl_Problem_isChances_1.eok k) (body := (bodyOf Tryz.f65)) (by kernel_rfl) (by kernel_rfl) ((impl_Problem_isChances_1.run k a.1 a.2.1 a.2.2.1 a.2.2.2.1 a.2.2.2.2).trans hr)⟩

def slices_IndexFunc_at_Problem_isChances_1.B2 (k : Nat) (r2 : List (List Int) → List Int → List (List Int) → List (List Int) → List (List Int) → Int → Int → Option (Int)) (x0 : List (List Int)) (x1_0_0 : List Int) (x1_0_1 : List (List Int)) (x1_1_0 : List (List Int)) (x1_1_1 : List (List Int)) (x7 : Int) (x8 : Int) : Option (Int) :=
  bif decide (x8 < x7) then (if (0 : Int) ≤ x8 ∧ x8 < (x0.length : Int) then ((impl_Problem_isChances_1.f k (x0.getD x8.toNat []) x1_0_0 x1_0_1 x1_1_0 x1_1_1).bind fun t1 => (bif t1 then some x8 else (r2 x0 x1_0_0 x1_0_1 x1_1_0 x1_1_1 x7 (w64 (x8 + 1))))) else none) else some (-1)
def slices_IndexFunc_at_Problem_isChances_1.B (k : Nat) (r2 : List (List Int) → List Int → List (List Int) → List (List Int) → List (List Int) → Int → Int → Option (Int)) (a0 : List (List Int)) (a1 : List Int) (a2 : List (List Int)) (a3 : List (List Int)) (a4 : List (List Int)) : Option (Int) :=
  r2 a0 a1 a2 a3 a4 (a0.length : Int) 0
def slices_IndexFunc_at_Problem_isChances_1.bs (k : Nat) : Nat → (List (List Int) → List Int → List (List Int) → List (List Int) → List (List Int) → Int → Int → Option (Int))
  | 0 => (fun _ _ _ _ _ _ _ => none)
  | n + 1 => (slices_IndexFunc_at_Problem_isChances_1.B2 k ((slices_IndexFunc_at_Problem_isChances_1.bs k n)))
def slices_IndexFunc_at_Problem_isChances_1.f (k : Nat) (a0 : List (List Int)) (a1 : List Int) (a2 : List (List Int)) (a3 : List (List Int)) (a4 : List (List Int)) : Option (Int) := slices_IndexFunc_at_Problem_isChances_1.B k ((slices_IndexFunc_at_Problem_isChances_1.bs k k)) a0 a1 a2 a3 a4
def slices_IndexFunc_at_Problem_isChances_1.ent : Ent := ⟨96, [.h (.list (.list (.int .i64))), .fn 65 [] [.rp [.h (.list (.int .i64)), .h (.list (.list (.int .i64)))], .rp [.h (.list (.list (.int .i64))), .h (.list (.list (.int .i64)))]]], [], .h (.int .i64), [], 44⟩
abbrev slices_IndexFunc_at_Problem_isChances_1.ts : List Ty := [.list (.list (.int .i64)), .list (.int .i64), .list (.list (.int .i64)), .list (.list (.int .i64)), .list (.list (.int .i64))]
abbrev slices_IndexFunc_at_Problem_isChances_1.rs : List Ty := [.int .i64]
def slices_IndexFunc_at_Problem_isChances_1.c2 : Cut := ⟨2, [(0, .h (.list (.list (.int .i64)))), (1, .fn 65 [] [.rp [.h (.list (.int .i64)), .h (.list (.list (.int .i64)))], .rp [.h (.list (.list (.int .i64))), .h (.list (.list (.int .i64)))]]), (7, .h (.int .i64)), (8, .h (.int .i64))], []⟩
noncomputable def slices_IndexFunc_at_Problem_isChances_1.E (k : Nat) : Env :=
  ⟨tab, 19, slices_IndexFunc_at_Problem_isChances_1.ent, slices_IndexFunc_at_Problem_isChances_1.rs, [impl_Problem_isChances_1.ent], ctOf [(43, mkF impl_Problem_isChances_1.ts impl_Problem_isChances_1.rs fun a => impl_Problem_isChances_1.f k a.1 a.2.1 a.2.2.1 a.2.2.2.1 a.2.2.2.2)], [slices_IndexFunc_at_Problem_isChances_1.c2], [.tmp 4]⟩
noncomputable def slices_IndexFunc_at_Problem_isChances_1.S2 : List Item := stk (bodyOf Tryz.f96) 2
noncomputable def slices_IndexFunc_at_Problem_isChances_1.m2 (x0 : List (List Int)) (x1_0_0 : List Int) (x1_0_1 : List (List Int)) (x1_1_0 : List (List Int)) (x1_1_1 : List (List Int)) (x7 : Int) (x8 : Int) : St := mkS slices_IndexFunc_at_Problem_isChances_1.c2 [.v (.list (.list (.int .i64))) x0, .v (.list (.int .i64)) x1_0_0, .v (.list (.list (.int .i64))) x1_0_1, .v (.list (.list (.int .i64))) x1_1_0, .v (.list (.list (.int .i64))) x1_1_1, .v (.int .i64) x7, .v (.int .i64) x8]
theorem slices_IndexFunc_at_Problem_isChances_1.h2 (k : Nat) (R : List Item → St → Option (PD slices_IndexFunc_at_Problem_isChances_1.rs)) (x0 : List (List Int)) (x1_0_0 : List Int) (x1_0_1 : List (List Int)) (x1_1_0 : List (List Int)) (x1_1_1 : List (List Int)) (x7 : Int) (x8 : Int) : run (slices_IndexFunc_at_Problem_isChances_1.E k) R 4000 true slices_IndexFunc_at_Problem_isChances_1.S2 (slices_IndexFunc_at_Problem_isChances_1.m2 x0 x1_0_0 x1_0_1 x1_1_0 x1_1_1 x7 x8) = slices_IndexFunc_at_Problem_isChances_1.B2 k (fun x0 x1_0_0 x1_0_1 x1_1_0 x1_1_1 x7 x8 => R slices_IndexFunc_at_Problem_isChances_1.S2 (slices_IndexFunc_at_Problem_isChances_1.m2 x0 x1_0_0 x1_0_1 x1_1_0 x1_1_1 x7 x8)) x0 x1_0_0 x1_0_1 x1_1_0 x1_1_1 x7 x8 := by kernel_rfl
theorem slices_IndexFunc_at_Problem_isChances_1.h (k : Nat) (R : List Item → St → Option (PD slices_IndexFunc_at_Problem_isChances_1.rs)) (a0 : List (List Int)) (a1 : List Int) (a2 : List (List Int)) (a3 : List (List Int)) (a4 : List (List Int)) : run (slices_IndexFunc_at_Problem_isChances_1.E k) R 4000 true [.code (bodyOf Tryz.f96)] (stA (slices_IndexFunc_at_Problem_isChances_1.E k) [.v (.list (.list (.int .i64))) a0, .v (.list (.int .i64)) a1, .v (.list (.list (.int .i64))) a2, .v (.list (.list (.int .i64))) a3, .v (.list (.list (.int .i64))) a4]) = slices_IndexFunc_at_Problem_isChances_1.B k (fun x0 x1_0_0 x1_0_1 x1_1_0 x1_1_1 x7 x8 => R slices_IndexFunc_at_Problem_isChances_1.S2 (slices_IndexFunc_at_Problem_isChances_1.m2 x0 x1_0_0 x1_0_1 x1_1_0 x1_1_1 x7 x8)) a0 a1 a2 a3 a4 := by kernel_rfl
theorem slices_IndexFunc_at_Problem_isChances_1.eok (k : Nat) : EOk Tryz.prog (slices_IndexFunc_at_Problem_isChances_1.E k) Tryz.f96 :=
  ⟨Tryz.func96, Tryz.ntmps96, by kernel_rfl, tab_ok, mixed, cuts_of (by kernel_rfl), Tab.ok (.cons (impl_Problem_isChances_1.ok k) (by kernel_rfl) .nil), by kernel_rfl⟩
theorem slices_IndexFunc_at_Problem_isChances_1.ff (k : Nat) : ∀ n : Nat, (fun x0 x1_0_0 x1_0_1 x1_1_0 x1_1_1 x7 x8 => FF (slices_IndexFunc_at_Problem_isChances_1.E k) n slices_IndexFunc_at_Problem_isChances_1.S2 (slices_IndexFunc_at_Problem_isChances_1.m2 x0 x1_0_0 x1_0_1 x1_1_0 x1_1_1 x7 x8)) = slices_IndexFunc_at_Problem_isChances_1.bs k n
  | 0 => rfl
  | n + 1 => by
    show (fun x0 x1_0_0 x1_0_1 x1_1_0 x1_1_1 x7 x8 => FF (slices_IndexFunc_at_Problem_isChances_1.E k) (n + 1) slices_IndexFunc_at_Problem_isChances_1.S2 (slices_IndexFunc_at_Problem_isChances_1.m2 x0 x1_0_0 x1_0_1 x1_1_0 x1_1_1 x7 x8)) = (slices_IndexFunc_at_Problem_isChances_1.B2 k ((slices_IndexFunc_at_Problem_isChances_1.bs k n)))
    rw [← slices_IndexFunc_at_Problem_isChances_1.ff k n]
    exact (funext fun x0 => funext fun x1_0_0 => funext fun x1_0_1 => funext fun x1_1_0 => funext fun x1_1_1 => funext fun x7 => funext fun x8 => (FF_succ ..).trans (slices_IndexFunc_at_Problem_isChances_1.h2 k (fun t s => FF (slices_IndexFunc_at_Problem_isChances_1.E k) n t s) x0 x1_0_0 x1_0_1 x1_1_0 x1_1_1 x7 x8))
theorem slices_IndexFunc_at_Problem_isChances_1.run (k : Nat) (a0 : List (List Int)) (a1 : List Int) (a2 : List (List Int)) (a3 : List (List Int)) (a4 : List (List Int)): FF (slices_IndexFunc_at_Problem_isChances_1.E k) (k + 1) [.code (bodyOf Tryz.f96)] (stA (slices_IndexFunc_at_Problem_isChances_1.E k) [.v (.list (.list (.int .i64))) a0, .v (.list (.int .i64)) a1, .v (.list (.list (.int .i64))) a2, .v (.list (.list (.int .i64))) a3, .v (.list (.list (.int .i64))) a4]) = slices_IndexFunc_at_Problem_isChances_1.f k a0 a1 a2 a3 a4 :=
  (FF_succ ..).trans ((slices_IndexFunc_at_Problem_isChances_1.h k (fun t s => FF (slices_IndexFunc_at_Problem_isChances_1.E k) k t s) a0 a1 a2 a3 a4).trans (by
    show _ = slices_IndexFunc_at_Problem_isChances_1.B k ((slices_IndexFunc_at_Problem_isChances_1.bs k k)) a0 a1 a2 a3 a4
    rw [← slices_IndexFunc_at_Problem_isChances_1.ff k k]))
theorem slices_IndexFunc_at_Problem_isChances_1.ok (k : Nat) : FnOK Tryz.prog slices_IndexFunc_at_Problem_isChances_1.ent slices_IndexFunc_at_Problem_isChances_1.ts slices_IndexFunc_at_Problem_isChances_1.rs fun a => slices_IndexFunc_at_Problem_isChances_1.f k a.1 a.2.1 a.2.2.1 a.2.2.2.1 a.2.2.2.2 :=
  ⟨hasBody_of Tryz.func96 (by kernel_rfl), by kernel_rfl, by kernel_rfl, fun a r hr => good_of (E := (slices_IndexFunc_at_Problem_isChances_1.E k)) (k := (k + 1)) (xs := encL slices_IndexFunc_at_Problem_isChances_1.ts a) (slices_IndexFunc_at_Problem_isChances_1.eok k) (body := (bodyOf Tryz.f96)) (by kernel_rfl) (by kernel_rfl) ((slices_IndexFunc_at_Problem_isChances_1.run k a.1 a.2.1 a.2.2.1 a.2.2.2.1 a.2.2.2.2).trans hr)⟩

end
end Go.Proofs.YtobfbgmglopdhaaGreat
