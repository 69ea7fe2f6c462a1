/- The library's sort and search contracts laid at this program: printed by the kit's own tools (lay-plain.mjs). oid.Compare: the order of ids. oid.Sorted of ids that are apart: as many come back. -/
import Derived.Shelf.SlGeneric
import Derived.Shelf.SlSortCmp.WholeK
import Derived.Shelf.SlicesQ.IndexFunc
import Derived.Shelf.SlicesE.Clone
import Derived.Ground.SlgnProg
import Derived.Ground.SlsfProg
import Derived.Ground.SlgfProg
import Derived.Test.YtbmpidacoohdmaaGreatProg
import Derived.Test.YtbmpidacoohdmaaGreatF11
import Derived.Shelf.SlSortCmp.SmallK
import Derived.Test.YtbmpidacoohdmaaGreatF10
import Derived.Shelf.SlSortCmp.NoneTotal
namespace Go.Proofs
open Go.Shelf
def Tryz.sortID_ren : Go.Shelf.Ren := ⟨fun | 6 => 211 | 15 => 169 | 14 => 281 | 28 => 229 | 29 => 230 | 20 => 334 | 21 => 335 | 22 => 336 | 23 => 337 | 24 => 338 | 25 => 339 | 26 => 340 | 27 => 341 | 46 => 366 | 47 => 286 | 48 => 287 | 49 => 367 | 50 => 368 | 57 => 375 | n => n, fun | 22 => 37 | 24 => 51 | 25 => 290 | 3 => 3 | 39 => 265 | 0 => 0 | 53 => 217 | 55 => 240 | 4 => 4 | 46 => 347 | 45 => 346 | 50 => 321 | 5 => 5 | 9 => 9 | 66 => 411 | 70 => 415 | 76 => 460 | 77 => 96 | n => n, fun | n => n⟩
theorem Tryz.sortID : Go.Proofs.SlLaysF0.n6 Tryz.prog Tryz.sortID_ren := {
  mixed := by kernel_rfl
  f6 := ⟨Tryz.f211.name, by decide, Tryz.func211.trans (congrArg some (by kernel_rfl))⟩
  f14 := ⟨Tryz.f281.name, by decide, Tryz.func281.trans (congrArg some (by kernel_rfl))⟩
  f15 := Tryz.func169.trans (congrArg some (by kernel_rfl))
  f20 := ⟨Tryz.f334.name, by decide, Tryz.func334.trans (congrArg some (by kernel_rfl))⟩
  f21 := ⟨Tryz.f335.name, by decide, Tryz.func335.trans (congrArg some (by kernel_rfl))⟩
  f22 := ⟨Tryz.f336.name, by decide, Tryz.func336.trans (congrArg some (by kernel_rfl))⟩
  f23 := ⟨Tryz.f337.name, by decide, Tryz.func337.trans (congrArg some (by kernel_rfl))⟩
  f24 := ⟨Tryz.f338.name, by decide, Tryz.func338.trans (congrArg some (by kernel_rfl))⟩
  f25 := ⟨Tryz.f339.name, by decide, Tryz.func339.trans (congrArg some (by kernel_rfl))⟩
  f26 := ⟨Tryz.f340.name, by decide, Tryz.func340.trans (congrArg some (by kernel_rfl))⟩
  f27 := ⟨Tryz.f341.name, by decide, Tryz.func341.trans (congrArg some (by kernel_rfl))⟩
  f28 := Tryz.func229.trans (congrArg some (by kernel_rfl))
  f29 := Tryz.func230.trans (congrArg some (by kernel_rfl))
  f46 := ⟨Tryz.f366.name, by decide, Tryz.func366.trans (congrArg some (by kernel_rfl))⟩
  f47 := Tryz.func286.trans (congrArg some (by kernel_rfl))
  f48 := Tryz.func287.trans (congrArg some (by kernel_rfl))
  f49 := ⟨Tryz.f367.name, by decide, Tryz.func367.trans (congrArg some (by kernel_rfl))⟩
  f50 := ⟨Tryz.f368.name, by decide, Tryz.func368.trans (congrArg some (by kernel_rfl))⟩
  f57 := ⟨Tryz.f375.name, by decide, Tryz.func375.trans (congrArg some (by kernel_rfl))⟩
  t0 := Tryz.underlying0
  a0 := Tryz.isAgg0
  z0 := Tryz.sizeOf0
  v0 := Tryz.zeroValue0
  t3 := Tryz.underlying3
  a3 := Tryz.isAgg3
  z3 := Tryz.sizeOf3
  v3 := Tryz.zeroValue3
  t4 := Tryz.underlying4
  a4 := Tryz.isAgg4
  z4 := Tryz.sizeOf4
  v4 := Tryz.zeroValue4
  t5 := Tryz.underlying5
  a5 := Tryz.isAgg5
  z5 := Tryz.sizeOf5
  v5 := Tryz.zeroValue5
  t9 := Tryz.underlying9
  a9 := Tryz.isAgg9
  z9 := Tryz.sizeOf9
  v9 := Tryz.zeroValue9
  t22 := Tryz.underlying37
  a22 := Tryz.isAgg37
  z22 := Tryz.sizeOf37
  v22 := Tryz.zeroValue37
  t25 := Tryz.underlying290
  a25 := Tryz.isAgg290
  z25 := Tryz.sizeOf290
  v25 := Tryz.zeroValue290
  t39 := Tryz.underlying265
  a39 := Tryz.isAgg265
  z39 := Tryz.sizeOf265
  v39 := Tryz.zeroValue265
  t45 := Tryz.underlying346
  a45 := Tryz.isAgg346
  z45 := Tryz.sizeOf346
  v45 := Tryz.zeroValue346
  t46 := Tryz.underlying347
  a46 := Tryz.isAgg347
  z46 := Tryz.sizeOf347
  v46 := Tryz.zeroValue347
  t50 := Tryz.underlying321
  a50 := Tryz.isAgg321
  z50 := Tryz.sizeOf321
  v50 := Tryz.zeroValue321
  t53 := Tryz.underlying217
  a53 := Tryz.isAgg217
  z53 := Tryz.sizeOf217
  v53 := Tryz.zeroValue217
  t55 := Tryz.underlying240
  a55 := Tryz.isAgg240
  z55 := Tryz.sizeOf240
  v55 := Tryz.zeroValue240
  t66 := Tryz.underlying411
  a66 := Tryz.isAgg411
  z66 := Tryz.sizeOf411
  v66 := Tryz.zeroValue411
  t70 := Tryz.underlying415
  a70 := Tryz.isAgg415
  z70 := Tryz.sizeOf415
  v70 := Tryz.zeroValue415
  t76 := Tryz.underlying460
  a76 := Tryz.isAgg460
  z76 := Tryz.sizeOf460
  v76 := Tryz.zeroValue460
  t77 := Tryz.underlying96
  a77 := Tryz.isAgg96
  z77 := Tryz.sizeOf96
  v77 := Tryz.zeroValue96 }
def Tryz.sortRow_ren : Go.Shelf.Ren := ⟨fun | 6 => 103 | 15 => 169 | 14 => 168 | 28 => 229 | 29 => 230 | 20 => 171 | 21 => 222 | 22 => 223 | 23 => 224 | 24 => 225 | 25 => 226 | 26 => 227 | 27 => 228 | 46 => 285 | 47 => 286 | 48 => 287 | 49 => 288 | 50 => 289 | 57 => 342 | n => n, fun | 22 => 116 | 24 => 120 | 25 => 121 | 3 => 3 | 39 => 265 | 0 => 0 | 53 => 217 | 55 => 240 | 4 => 4 | 46 => 347 | 45 => 346 | 50 => 321 | 5 => 5 | 9 => 9 | 66 => 411 | 70 => 415 | 76 => 460 | 77 => 96 | n => n, fun | n => n⟩
theorem Tryz.sortRow : Go.Proofs.SlLaysF0.n6 Tryz.prog Tryz.sortRow_ren := {
  mixed := by kernel_rfl
  f6 := ⟨Tryz.f103.name, by decide, Tryz.func103.trans (congrArg some (by kernel_rfl))⟩
  f14 := ⟨Tryz.f168.name, by decide, Tryz.func168.trans (congrArg some (by kernel_rfl))⟩
  f15 := Tryz.func169.trans (congrArg some (by kernel_rfl))
  f20 := ⟨Tryz.f171.name, by decide, Tryz.func171.trans (congrArg some (by kernel_rfl))⟩
  f21 := ⟨Tryz.f222.name, by decide, Tryz.func222.trans (congrArg some (by kernel_rfl))⟩
  f22 := ⟨Tryz.f223.name, by decide, Tryz.func223.trans (congrArg some (by kernel_rfl))⟩
  f23 := ⟨Tryz.f224.name, by decide, Tryz.func224.trans (congrArg some (by kernel_rfl))⟩
  f24 := ⟨Tryz.f225.name, by decide, Tryz.func225.trans (congrArg some (by kernel_rfl))⟩
  f25 := ⟨Tryz.f226.name, by decide, Tryz.func226.trans (congrArg some (by kernel_rfl))⟩
  f26 := ⟨Tryz.f227.name, by decide, Tryz.func227.trans (congrArg some (by kernel_rfl))⟩
  f27 := ⟨Tryz.f228.name, by decide, Tryz.func228.trans (congrArg some (by kernel_rfl))⟩
  f28 := Tryz.func229.trans (congrArg some (by kernel_rfl))
  f29 := Tryz.func230.trans (congrArg some (by kernel_rfl))
  f46 := ⟨Tryz.f285.name, by decide, Tryz.func285.trans (congrArg some (by kernel_rfl))⟩
  f47 := Tryz.func286.trans (congrArg some (by kernel_rfl))
  f48 := Tryz.func287.trans (congrArg some (by kernel_rfl))
  f49 := ⟨Tryz.f288.name, by decide, Tryz.func288.trans (congrArg some (by kernel_rfl))⟩
  f50 := ⟨Tryz.f289.name, by decide, Tryz.func289.trans (congrArg some (by kernel_rfl))⟩
  f57 := ⟨Tryz.f342.name, by decide, Tryz.func342.trans (congrArg some (by kernel_rfl))⟩
  t0 := Tryz.underlying0
  a0 := Tryz.isAgg0
  z0 := Tryz.sizeOf0
  v0 := Tryz.zeroValue0
  t3 := Tryz.underlying3
  a3 := Tryz.isAgg3
  z3 := Tryz.sizeOf3
  v3 := Tryz.zeroValue3
  t4 := Tryz.underlying4
  a4 := Tryz.isAgg4
  z4 := Tryz.sizeOf4
  v4 := Tryz.zeroValue4
  t5 := Tryz.underlying5
  a5 := Tryz.isAgg5
  z5 := Tryz.sizeOf5
  v5 := Tryz.zeroValue5
  t9 := Tryz.underlying9
  a9 := Tryz.isAgg9
  z9 := Tryz.sizeOf9
  v9 := Tryz.zeroValue9
  t22 := Tryz.underlying116
  a22 := Tryz.isAgg116
  z22 := Tryz.sizeOf116
  v22 := Tryz.zeroValue116
  t25 := Tryz.underlying121
  a25 := Tryz.isAgg121
  z25 := Tryz.sizeOf121
  v25 := Tryz.zeroValue121
  t39 := Tryz.underlying265
  a39 := Tryz.isAgg265
  z39 := Tryz.sizeOf265
  v39 := Tryz.zeroValue265
  t45 := Tryz.underlying346
  a45 := Tryz.isAgg346
  z45 := Tryz.sizeOf346
  v45 := Tryz.zeroValue346
  t46 := Tryz.underlying347
  a46 := Tryz.isAgg347
  z46 := Tryz.sizeOf347
  v46 := Tryz.zeroValue347
  t50 := Tryz.underlying321
  a50 := Tryz.isAgg321
  z50 := Tryz.sizeOf321
  v50 := Tryz.zeroValue321
  t53 := Tryz.underlying217
  a53 := Tryz.isAgg217
  z53 := Tryz.sizeOf217
  v53 := Tryz.zeroValue217
  t55 := Tryz.underlying240
  a55 := Tryz.isAgg240
  z55 := Tryz.sizeOf240
  v55 := Tryz.zeroValue240
  t66 := Tryz.underlying411
  a66 := Tryz.isAgg411
  z66 := Tryz.sizeOf411
  v66 := Tryz.zeroValue411
  t70 := Tryz.underlying415
  a70 := Tryz.isAgg415
  z70 := Tryz.sizeOf415
  v70 := Tryz.zeroValue415
  t76 := Tryz.underlying460
  a76 := Tryz.isAgg460
  z76 := Tryz.sizeOf460
  v76 := Tryz.zeroValue460
  t77 := Tryz.underlying96
  a77 := Tryz.isAgg96
  z77 := Tryz.sizeOf96
  v77 := Tryz.zeroValue96 }
def Tryz.idxChg_ren : Go.Shelf.Ren := ⟨fun | 6 => 51 | n => n, fun | 22 => 23 | 23 => 53 | 25 => 123 | 3 => 3 | 0 => 0 | 4 => 4 | n => n, fun | n => n⟩
theorem Tryz.idxChg : Go.Proofs.SlLaysH0.n6 Tryz.prog Tryz.idxChg_ren := {
  mixed := by kernel_rfl
  f6 := ⟨Tryz.f51.name, by decide, Tryz.func51.trans (congrArg some (by kernel_rfl))⟩
  t0 := Tryz.underlying0
  a0 := Tryz.isAgg0
  z0 := Tryz.sizeOf0
  v0 := Tryz.zeroValue0
  t3 := Tryz.underlying3
  a3 := Tryz.isAgg3
  z3 := Tryz.sizeOf3
  v3 := Tryz.zeroValue3
  t4 := Tryz.underlying4
  a4 := Tryz.isAgg4
  z4 := Tryz.sizeOf4
  v4 := Tryz.zeroValue4
  t22 := Tryz.underlying23
  a22 := Tryz.isAgg23
  z22 := Tryz.sizeOf23
  v22 := Tryz.zeroValue23
  t25 := Tryz.underlying123
  a25 := Tryz.isAgg123
  z25 := Tryz.sizeOf123
  v25 := Tryz.zeroValue123 }
def Tryz.cloneID_ren : Go.Shelf.Ren := ⟨fun | 41 => 210 | n => n, fun | 22 => 37 | 23 => 51 | 4 => 4 | n => n, fun | n => n⟩
theorem Tryz.cloneID : Go.Proofs.SlLaysE0.n41 Tryz.prog Tryz.cloneID_ren := {
  mixed := by kernel_rfl
  f41 := ⟨Tryz.f210.name, by decide, Tryz.func210.trans (congrArg some (by kernel_rfl))⟩
  t4 := Tryz.underlying4
  a4 := Tryz.isAgg4
  z4 := Tryz.sizeOf4
  v4 := Tryz.zeroValue4
  t22 := Tryz.underlying37
  a22 := Tryz.isAgg37
  z22 := Tryz.sizeOf37
  v22 := Tryz.zeroValue37 }
end Go.Proofs
namespace Go.Proofs.YtbmpidacoohdmaaGreat
open Lib renaming hid → hI
open Go.RowKit Op

def cmpL : List UInt8 → List UInt8 → Int
  | [], [] => 0
  | [], _ :: _ => -1
  | _ :: _, [] => 1
  | x :: a, y :: b => if x.toNat < y.toNat then -1 else if y.toNat < x.toNat then 1 else cmpL a b
theorem cmpL_self : ∀ a, cmpL a a = 0
  | [] => rfl
  | x :: a => by rw [cmpL, if_neg (Nat.lt_irrefl _), if_neg (Nat.lt_irrefl _)]; exact cmpL_self a
theorem cmpL_trans : ∀ a b c : List UInt8, cmpL a b < 0 → cmpL b c < 0 → cmpL a c < 0
  | [], [], _, h, _ => by simp [cmpL] at h
  | [], _ :: _, [], _, h => by simp [cmpL] at h
  | [], _ :: _, _ :: _, _, _ => by simp [cmpL]
  | _ :: _, [], _, h, _ => by simp [cmpL] at h
  | _ :: _, _ :: _, [], _, h => by simp [cmpL] at h
  | x :: a, y :: b, z :: c, h, k => by
    simp only [cmpL] at *
    have ih := cmpL_trans a b c
    split at h <;> split at k <;> (try split at h) <;> (try split at k) <;> split <;> (try split) <;> first | omega | (exact ih h k)
theorem cmpL_ntrans : ∀ a b c : List UInt8, ¬ cmpL a b < 0 → ¬ cmpL b c < 0 → ¬ cmpL a c < 0
  | [], [], [], _, _ => by simp [cmpL]
  | [], [], _ :: _, _, h => by simp [cmpL] at h
  | [], _ :: _, _, h, _ => by simp [cmpL] at h
  | _ :: _, [], [], _, _ => by simp [cmpL]
  | _ :: _, [], _ :: _, _, h => by simp [cmpL] at h
  | _ :: _, _ :: _, [], _, _ => by simp [cmpL]
  | x :: a, y :: b, z :: c, h, k => by
    simp only [cmpL] at *
    have ih := cmpL_ntrans a b c
    split at h <;> split at k <;> (try split at h) <;> (try split at k) <;> split <;> (try split) <;> first | omega | (exact ih h k)
theorem cmpL_step (a b : List UInt8) : ∀ k, k < a.length → k < b.length → a.take k = b.take k → cmpL a b = cmpL (a.drop k) (b.drop k) := by
  intro k
  induction k generalizing a b with
  | zero => intro _ _ _; simp
  | succ k ih =>
    intro ha hb ht
    match a, b with
    | x :: a, y :: b =>
      simp only [List.take_succ_cons, List.cons.injEq] at ht
      obtain ⟨rfl, ht⟩ := ht
      rw [cmpL, if_neg (Nat.lt_irrefl _), if_neg (Nat.lt_irrefl _)]
      simpa using ih a b (by simpa using ha) (by simpa using hb) ht
theorem cmpL_at (a b : List UInt8) (k : Nat) (ha : k < a.length) (hb : k < b.length) (ht : a.take k = b.take k) :
    cmpL a b = if (a.getD k 0).toNat < (b.getD k 0).toNat then -1 else if (b.getD k 0).toNat < (a.getD k 0).toNat then 1 else cmpL (a.drop (k + 1)) (b.drop (k + 1)) := by
  rw [cmpL_step a b k ha hb ht, List.drop_eq_getElem_cons ha, List.drop_eq_getElem_cons hb, cmpL]
  simp [ha, hb]
abbrev Id32 := { l : List UInt8 // l.length = 32 }
instance : Inhabited Id32 := ⟨⟨List.replicate 32 0, rfl⟩⟩
def encI (x : Id32) : List Value := bys x.1
def cfI (x y : Id32) : Int := cmpL x.1 y.1
theorem swoI : Sort.SWO (ltOf cfI) where
  irrefl x := by simp [ltOf, cfI, cmpL_self]
  trans x y z h k := by
    exact decide_eq_true (cmpL_trans _ _ _ (of_decide_eq_true h) (of_decide_eq_true k))
  ntrans x y z h k := by
    exact decide_eq_false (cmpL_ntrans _ _ _ (of_decide_eq_false h) (of_decide_eq_false k))
def cmpN (x y : Nat) : Int := if x < y then -1 else if y < x then 1 else 0
set_option maxRecDepth 100000 in
set_option maxHeartbeats 1000000 in
theorem cmpb_any (w : World) (x y : UInt8) : Calls Tryz.prog 310 #[.int .u8 (x.toNat : Int), .int .u8 (y.toNat : Int)] w fun e w2 => e = .returned (.int .i64 (cmpN x.toNat y.toNat)) ∧ w = w2 := by
  have hx := x.toNat_lt
  have hy := y.toNat_lt
  unfold cmpN
  generalize x.toNat = a at *
  generalize y.toNat = b at *
  go_enter Tryz.func310, Tryz.ntmps310
  go_wp2
  all_goals go_ret
  all_goals exact ⟨rfl, rfl⟩
set_option maxRecDepth 100000 in
set_option maxHeartbeats 1000000 in
theorem scmp_any (w : World) (A B : Nat) (a b : List UInt8) (ha : a.length = 32) (hb : b.length = 32) (h1 : Rv w.heap.size w (some ⟨A, 0, none⟩) (bys a)) (h2 : Rv w.heap.size w (some ⟨B, 0, none⟩) (bys b)) :
    Calls Tryz.prog 249 #[.slice (some ⟨A, 0, none⟩) 32 32, .slice (some ⟨B, 0, none⟩) 32 32] w fun e w2 => e = .returned (.int .i64 (cmpL a b)) ∧ w = w2 := by
  have HA := hI (fun k (hk : k < 32) => show w.cell? ⟨A, k, none⟩ = some (.int .u8 ((a.getD k 0).toNat : Int)) by
    obtain ⟨ad, e, _, hc⟩ := h1.at_ (bys_at (l := a) (k := k) (by omega))
    obtain rfl := Option.some.inj e
    rwa [Addr.add_lit, Nat.zero_add] at hc)
  have HB := hI (fun k (hk : k < 32) => show w.cell? ⟨B, k, none⟩ = some (.int .u8 ((b.getD k 0).toNat : Int)) by
    obtain ⟨ad, e, _, hc⟩ := h2.at_ (bys_at (l := b) (k := k) (by omega))
    obtain rfl := Option.some.inj e
    rwa [Addr.add_lit, Nat.zero_add] at hc)
  obtain ⟨r, hr⟩ : ∃ r, cmpL a b = r := ⟨_, rfl⟩
  have HE : Hid (a = b → r = 0) := hI (fun e => by rw [← hr, e, cmpL_self])
  have HS : Hid (∀ k, k < 32 → a.take k = b.take k → ((a.getD k 0).toNat < (b.getD k 0).toNat → r = -1) ∧ ((b.getD k 0).toNat < (a.getD k 0).toNat → r = 1)) := hI (fun k hk ht => by
    have := cmpL_at a b k (by omega) (by omega) ht
    rw [hr] at this
    exact ⟨fun h => by rw [this, if_pos h], fun h => by rw [this, if_neg (by omega), if_pos h]⟩)
  have HT : Hid (∀ k, k < 32 → a.take k = b.take k → a.getD k 0 = b.getD k 0 → a.take (k + 1) = b.take (k + 1)) := hI (fun k hk ht h => by
    rw [List.take_add_one, List.take_add_one, ht, List.getElem?_eq_getElem (by omega), List.getElem?_eq_getElem (by omega)]
    simp only [List.getD_eq_getElem?_getD, List.getElem?_eq_getElem (show k < a.length by omega), List.getElem?_eq_getElem (show k < b.length by omega), Option.getD_some] at h
    rw [h])
  have HZ : Hid (a.take 32 = b.take 32 → a = b) := hI (fun h => by rwa [List.take_of_length_le (by omega), List.take_of_length_le (by omega)] at h)
  rw [hr]
  clear h1 h2 ha hb hr
  go_enter Tryz.func249, Tryz.ntmps249
  go_wp2_with fail
  go_loop [11] (fun kv => ∃ k : Nat, k ≤ 32 ∧ kv = .int .i64 k ∧ Hid (a.take k = b.take k)) (fun kv => 32 - (intOf kv).toNat)
  case atStart => exact ⟨0, Nat.zero_le _, rfl, hI rfl⟩
  case round =>
    obtain ⟨k, hk, rfl, ht⟩ := hrel
    by_cases hlt : k < 32
    · have c1 := HA.out k hlt
      have c2 := HB.out k hlt
      have HST := hI (HS.out k hlt ht.out)
      have HN := hI (HT.out k hlt ht.out)
      have HC := hI (fun W => cmpb_any W (a.getD k 0) (b.getD k 0))
      have HI : Hid ((a.getD k 0).toNat = (b.getD k 0).toNat → a.getD k 0 = b.getD k 0) := hI (fun h => UInt8.toNat_inj.1 h)
      clear HA HB HS HT
      generalize a.getD k 0 = x at *
      generalize b.getD k 0 = y at *
      rcases Nat.lt_trichotomy x.toNat y.toNat with h | h | h
      · have hn : cmpN x.toNat y.toNat = -1 := by unfold cmpN; rw [if_pos h]
        rw [hn] at HC
        go_wp2_with (go_at_call 310; refine (HC.out _).mono ?_; rintro e w2 ⟨rfl, rfl⟩)
        go_ret
        exact ⟨ret_int (HST.out.1 h).symm, rfl⟩
      · have hn : cmpN x.toNat y.toNat = 0 := by unfold cmpN; rw [if_neg (by omega), if_neg (by omega)]
        rw [hn] at HC
        have hxy := HI.out h
        have HN2 := hI (HN.out hxy)
        clear h hn HN
        subst hxy
        go_wp2_with (go_at_call 310; refine (HC.out _).mono ?_; rintro e w2 ⟨rfl, rfl⟩)
        exact ⟨⟨k + 1, by omega, by go_num, HN2⟩, by simp [intOf]; omega⟩
      · have hn : cmpN x.toNat y.toNat = 1 := by unfold cmpN; rw [if_neg (by omega), if_pos h]
        rw [hn] at HC
        go_wp2_with (go_at_call 310; refine (HC.out _).mono ?_; rintro e w2 ⟨rfl, rfl⟩)
        go_ret
        exact ⟨ret_int (HST.out.2 h).symm, rfl⟩
    · have hke : k = 32 := by omega
      subst hke
      go_wp2_with fail
      go_ret
      exact ⟨ret_int (HE.out (HZ.out ht.out)).symm, rfl⟩

attribute [local go_sem ↓] load42_eq box42_eq run_box42
set_option maxRecDepth 100000 in
set_option maxHeartbeats 1000000 in
theorem compare_any (W : World) (a b : List UInt8) (ha : a.length = 32) (hb : b.length = 32) : Calls Tryz.prog 183 #[.agg (bys a).toArray, .agg (bys b).toArray] W fun e w2 => e = .returned (.int .i64 (cmpL a b)) ∧ ∃ q os, w2 = Sort.grow (W.drewN q) os := by
  have R1 := hI ((Ar.new W (bys a) 51).alloc (.cells (bys b).toArray 51))
  have R2 := hI (Ar.new (W.alloc (.cells (bys a).toArray 51)) (bys b) 51)
  have hsz : (W.alloc (.cells (bys a).toArray 51)).heap.size = W.heap.size + 1 := by simp
  rw [hsz] at R2
  have hw : ∃ q os, ((W.alloc (.cells (bys a).toArray 51)).alloc (.cells (bys b).toArray 51)) = Sort.grow (W.drewN q) os := ⟨0, _, by rw [Sort.alloc_eq_grow, Sort.alloc_eq_grow, Sort.grow_grow]; rfl⟩
  have HW := hI hw
  clear hw
  go_enter Tryz.func183, Tryz.ntmps183
  go_wp2_with fail
  generalize hw0 : ((W.alloc (.cells (bys a).toArray 51)).alloc (.cells (bys b).toArray 51)) = w0 at *
  have HC := hI (scmp_any w0.drew W.heap.size (W.heap.size + 1) a b ha hb R1.out.rv R2.out.rv)
  go_region_with (go_at_call 249; refine HC.out.mono ?_; rintro e w5 ⟨rfl, rfl⟩)
  all_goals
    go_wp2_with fail
    go_ret
    obtain ⟨q, os, e⟩ := HW.out
    exact ⟨rfl, q + 1, os, by rw [e]; rfl⟩
end Go.Proofs.YtbmpidacoohdmaaGreat
namespace Go.Proofs.YtbmpidacoohdmaaGreat
open Lib renaming hid → hI
open Go.RowKit Op
open Go.Sort (HoldsK flatK putRowK PermIn SortedIn)

theorem flat_at {α : Type} [Inhabited α] (f : α → List Value) (k : Nat) (hk : ∀ x, (f x).length = k) : ∀ (l : List α) (i c : Nat), i < l.length → c < k → (l.flatMap f)[i * k + c]? = (f l[i]!)[c]?
  | [], i, c, h, _ => by simp at h
  | x :: l, 0, c, _, hc => by
    rw [List.flatMap_cons, Nat.zero_mul, Nat.zero_add, List.getElem?_append_left (by rw [hk]; exact hc)]
    simp
  | x :: l, i + 1, c, h, hc => by
    rw [List.flatMap_cons, List.getElem?_append_right (by rw [hk, Nat.add_mul]; omega), hk, show (i + 1) * k + c - k = i * k + c by rw [Nat.add_mul]; omega, flat_at f k hk l i c (by simpa using h) hc]
    simp
theorem flat_len2 {α : Type} (f : α → List Value) (k : Nat) (hk : ∀ x, (f x).length = k) (l : List α) : (l.flatMap f).length = l.length * k := by
  induction l with
  | nil => simp
  | cons x l ih => rw [List.flatMap_cons, List.length_append, ih, hk, List.length_cons, Nat.add_mul]; omega
section
variable {α : Type} [Inhabited α] {enc : α → List Value} {k blk : Nat} {w : World} {d d2 : Array α}
theorem rv_of_holds (hk : ∀ x, (enc x).length = k) (h : HoldsK enc k w blk 0 d) (hb : blk < w.heap.size) : Rv w.heap.size w (some ⟨blk, 0, none⟩) (d.toList.flatMap enc) := fun t x hx => by
  have hlt := (List.getElem?_eq_some_iff.1 hx).1
  rw [flat_len2 enc k hk] at hlt
  have k0 : 0 < k := by rcases Nat.eq_zero_or_pos k with e | e; · rw [e] at hlt; omega
                        · exact e
  have hi : t / k < d.size := by rw [← Array.length_toList]; exact (Nat.div_lt_iff_lt_mul k0).2 hlt
  have hc : t % k < k := Nat.mod_lt _ k0
  have ht : t / k * k + t % k = t := by rw [Nat.mul_comm]; exact Nat.div_add_mod t k
  have e := (h.cell hi hc).1
  rw [Nat.zero_add, ht] at e
  have e2 := flat_at enc k hk d.toList (t / k) (t % k) (by simpa using hi) hc
  rw [ht, hx] at e2
  refine ⟨_, rfl, hb, ?_⟩
  rw [Addr.add_lit, Nat.zero_add, e]
  have e3 : d.toList[t / k]! = d[t / k]! := by simp [hi]
  rw [e3] at e2
  rw [e2, getElem!_pos _ _ (by rw [hk]; exact hc)]
  simp
theorem holds_of_rv (hk : ∀ x, (enc x).length = k) (h : Rv w.heap.size w (some ⟨blk, 0, none⟩) (d.toList.flatMap enc)) (hf : ∀ j, w.frozen? ⟨blk, j, none⟩ = false) : HoldsK enc k w blk 0 d := fun t ht => by
  rw [Go.Sort.size_flatK] at ht
  refine ⟨?_, hf _⟩
  rw [Go.Sort.get_flatK _ _ _ _ ht]
  have k0 : 0 < k := by rcases Nat.eq_zero_or_pos k with e | e; · rw [e] at ht; omega
                        · exact e
  have hi : t / k < d.size := (Nat.div_lt_iff_lt_mul k0).2 ht
  have hc : t % k < k := Nat.mod_lt _ k0
  have hte : t / k * k + t % k = t := by rw [Nat.mul_comm]; exact Nat.div_add_mod t k
  have e2 := flat_at enc k hk d.toList (t / k) (t % k) (by simpa using hi) hc
  rw [hte, show d.toList[t / k]! = d[t / k]! by simp [hi], List.getElem?_eq_getElem (l := enc d[t / k]!) (i := t % k) (by rw [hk]; exact hc)] at e2
  obtain ⟨ad, e, _, hcell⟩ := h.at_ e2
  obtain rfl := Option.some.inj e
  rw [Addr.add_lit, Nat.zero_add] at hcell
  rw [Nat.zero_add, hcell, getElem!_pos (enc d[t / k]!) (t % k) (by rw [hk]; exact hc)]
  rfl
theorem chs_sort (n : Nat) (ob : Array Obj) : Chs (fun q => q = blk) w (sortWorldK enc k w blk 0 n d ob) where
  os := rfl
  tape := rfl
  output := rfl
  size := by simp [sortWorldK, putRowK]
  block := fun q hq hn => by
    unfold sortWorldK
    rw [Go.Sort.heap_grow_old _ _ (by simpa [putRowK] using hq)]
    simp [putRowK, Go.Sort.putRow, Go.Sort.mapBlock, Array.getElem?_modify, Ne.symm hn]
theorem holds_sort (h : HoldsK enc k w blk 0 d) (hs : d2.size = d.size) (hb : blk < w.heap.size) (n : Nat) (ob : Array Obj) : HoldsK enc k (sortWorldK enc k w blk 0 n d2 ob) blk 0 d2 := by
  unfold sortWorldK
  exact Go.Sort.holdsK_grow _ _ _ _ _ _ _ (by simpa [putRowK] using hb) (Go.Sort.holdsK_putRowK _ _ _ _ _ _ _ (Go.Sort.holdsK_ahead _ _ _ _ _ _ _ h) hs)
end
theorem perm_list {α : Type} [Inhabited α] {d d2 : Array α} (h : PermIn 0 d.size d d2) : d2.toList.Perm d.toList := by
  obtain ⟨h1, _, h2⟩ := h
  rw [Array.extract_eq_self_of_le (by omega), Array.extract_eq_self_of_le (by omega)] at h2
  exact h2
theorem bys32 (L : List (List UInt8)) (hL : ∀ x ∈ L, x.length = 32) (k : Nat) (hk : k < L.length) (c : Nat) (hc : c < 32) : (L.flatMap bys)[k * 32 + c]? = (bys (L.getD k []))[c]? := by
  induction L generalizing k with
  | nil => simp at hk
  | cons x L ih =>
    rw [List.flatMap_cons]
    have hx : (bys x).length = 32 := by rw [bys_len]; exact hL x (by simp)
    cases k with
    | zero => rw [Nat.zero_mul, Nat.zero_add, List.getElem?_append_left (by omega)]; simp
    | succ k =>
      rw [List.getElem?_append_right (by rw [hx]; omega), hx, show (k + 1) * 32 + c - 32 = k * 32 + c by omega, ih (fun y hy => hL y (by simp [hy])) k (by simpa using hk)]
      simp
theorem getD_mem {L : List (List UInt8)} {k : Nat} (hk : k < L.length) : L.getD k [] ∈ L := by
  rw [List.getD_eq_getElem?_getD, List.getElem?_eq_getElem hk]
  exact List.getElem_mem hk
/-- An id of a row of ids is loaded. -/
theorem ld_row {w : World} {g : Nat} {L : List (List UInt8)} (hL : ∀ x ∈ L, x.length = 32) (h : Rv w.heap.size w (some ⟨g, 0, none⟩) (L.flatMap bys)) {k : Nat} (hk : k < L.length) : (load42 ⟨g, k * 32, none⟩).run Tryz.prog w = .ok (.agg (bys (L.getD k [])).toArray) w :=
  run_loadVar_cells Tryz.underlying51 rfl (by rw [bys_len, hL _ (getD_mem hk)]; exact inf42) (fun j v hv => by
    have hj : j < 32 := by have := (List.getElem?_eq_some_iff.1 hv).1; rwa [bys_len, hL _ (getD_mem hk)] at this
    rw [← bys32 L hL k hk j hj] at hv
    obtain ⟨ad, e, _, hc⟩ := h.at_ hv
    obtain rfl := Option.some.inj e
    rw [Addr.add_lit, Nat.zero_add] at hc
    rw [Addr.add_lit]
    exact hc)
attribute [local go_sem ↓] load42_eq store42_eq new42_eq run_new42 box42_eq run_box42
set_option maxRecDepth 100000 in
set_option maxHeartbeats 1000000 in
theorem compact_any (w : World) (g cap : Nat) (L : List (List UInt8)) (hL : ∀ x ∈ L, x.length = 32) (hnd : L.Nodup) (hn : L.length ≤ 40) (hcap : L.length ≤ cap) (hr : Rv w.heap.size w (some ⟨g, 0, none⟩) (L.flatMap bys)) :
    Calls Tryz.prog 213 #[.slice (some ⟨g, 0, none⟩) L.length cap] w fun e w2 => e = .returned (.slice (some ⟨g, 0, none⟩) L.length cap) ∧ Below w.heap.size w w2 := by
  have HQ := hI (fun k (hk : k + 1 < L.length) => show ∀ W, (binOp .eql 51 (.agg (bys (L.getD (k + 1) [])).toArray) (.agg (bys (L.getD k [])).toArray)).run Tryz.prog W = .ok (.bool false) W from fun W => by
    rw [run_eql_id (hL _ (getD_mem hk)) (hL _ (getD_mem (by omega)))]
    have : L.getD (k + 1) [] ≠ L.getD k [] := fun e => by
      rw [List.getD_eq_getElem?_getD, List.getD_eq_getElem?_getD, List.getElem?_eq_getElem hk, List.getElem?_eq_getElem (by omega)] at e
      have := (List.getElem_inj hnd).1 (by simpa using e)
      omega
    rw [decide_eq_false this])
  have HD := hI (fun k (hk : k < L.length) => show ∀ q, (load42 ⟨g, k * 32, none⟩).run Tryz.prog (w.drewN q) = .ok (.agg (bys (L.getD k [])).toArray) (w.drewN q) from fun q => ld_row (w := w.drewN q) hL (hr.drewN q) hk)
  clear hL hnd hr
  generalize L.length = n at *
  go_enter Tryz.func213, Tryz.ntmps213
  by_cases h2 : n < 2
  · go_wp2_with fail
    go_ret
    exact ⟨rfl, Below.refl _ _⟩
  · go_wp2_with fail
    go_loopw [3] (fun kv wr => ∃ k q : Nat, k + 1 ≤ n ∧ kv = .int .i64 ((k : Int) + 1) ∧ wr = w.drewN q) (fun kv _ => n - (intOf kv).toNat)
    case atStart => exact ⟨0, 0, by omega, rfl, rfl⟩
    case round =>
      obtain ⟨k, q, hk, rfl, rfl⟩ := hrel
      by_cases hlt : k + 1 < n
      · have hq := HQ.out k hlt
        have hl1 := HD.out (k + 1) hlt
        have hl2 := HD.out k (by omega)
        generalize (bys (L.getD k [])).toArray = X at *
        generalize (bys (L.getD (k + 1) [])).toArray = Y at *
        have e1 : ((k : Int) + 1).toNat = k + 1 := by omega
        clear HQ HD
        go_wp2_with fail
        refine wp_region_quiet_lit (by kernel_rfl) (by kernel_rfl) ?_
        repeat (go_big_quiet_step (fail))
        refine wpQuiet_nil ?_
        rintro _ ⟨n1, rfl⟩
        go_wp2_with fail
        exact ⟨⟨k + 1, q + n1, by omega, by go_num, by simp⟩, by simp [intOf]; omega⟩
      · have hke : n = k + 1 := by omega
        subst hke
        go_wp2_with fail
        go_ret
        exact ⟨rfl, below_dr (Below.refl _ _) _⟩
set_option maxRecDepth 100000 in
set_option maxHeartbeats 1000000 in
theorem clip_any (w : World) (D : Option Addr) (n cap : Nat) (hc : n ≤ cap) : Calls Tryz.prog 212 #[.slice D n cap] w fun e w2 => (∃ D2 c2, e = .returned (.slice D2 n c2)) ∧ w = w2 := by
  go_enter Tryz.func212, Tryz.ntmps212
  go_wp2_with fail
  go_ret
  exact ⟨⟨_, _, rfl⟩, rfl⟩
theorem to32 : ∀ (L : List (List UInt8)), (∀ x ∈ L, x.length = 32) → ∃ M : List Id32, M.map (·.1) = L
  | [], _ => ⟨[], rfl⟩
  | x :: L, h => by
    obtain ⟨M, e⟩ := to32 L (fun y hy => h y (by simp [hy]))
    exact ⟨⟨x, h x (by simp)⟩ :: M, by simp [e]⟩
theorem own_formk {w : World} {C size : Nat} {e : TypeId} {v : Value} {n : Nat} {xs : List Value} (h : w.ownsRow C e size v n xs) (hn : 0 < n) :
    ∃ b cap cs, v = .slice (some ⟨b, 0, none⟩) n cap ∧ C ≤ b ∧ n ≤ cap ∧ w.heap[b]? = some (.cells cs e (0, 0)) ∧ Rv w.heap.size w (some ⟨b, 0, none⟩) xs := by
  obtain ⟨D, d, e1, _, hd, hr, _⟩ := own_all h
  obtain ⟨_, ⟨h1, h2⟩ | ⟨g, cap, cur, h1, h2, h3, h4, h5, h6, h7⟩⟩ := h
  · omega
  · rw [h1] at e1
    injection e1 with e2 e3 e4
    subst e2
    exact ⟨g, cap, cur, h1, h2, by omega, h3, hr⟩
set_option maxRecDepth 100000 in
set_option maxHeartbeats 1000000 in
theorem sort_ids (w : World) (g cap : Nat) (cs : Array Value) (L : List (List UInt8)) (hL : ∀ x ∈ L, x.length = 32) (hn : L.length ≤ 40) (hb : w.heap[g]? = some (.cells cs 51 (0, 0))) (hr : Rv w.heap.size w (some ⟨g, 0, none⟩) (L.flatMap bys)) :
    Calls Tryz.prog 211 #[.slice (some ⟨g, 0, none⟩) L.length cap, .func (.func 183) #[] #[]] w fun e w2 => e = .returned (.tuple #[]) ∧ ∃ L2 : List (List UInt8), L2.Perm L ∧ Rv w2.heap.size w2 (some ⟨g, 0, none⟩) (L2.flatMap bys) ∧ Chs (fun q => q = g) w w2 := by
  obtain ⟨M, rfl⟩ := to32 L hL
  have hlt : g < w.heap.size := (Array.getElem?_eq_some_iff.1 hb).1
  have hk : ∀ x : Id32, (encI x).length = 32 := fun x => by rw [encI, bys_len, x.2]
  have hfl : ∀ M : List Id32, (M.map (·.1)).flatMap bys = M.flatMap encI := fun M => by rw [List.flatMap_map]; rfl
  rw [hfl] at hr
  have hH : HoldsK encI 32 w g 0 M.toArray := holds_of_rv hk (by simpa using hr) (fun j => frozen_of_row w g j _ _ hb)
  have hcon := AnyQ.slices_SortFunc Tryz.sortID 32 Tryz.isAgg51 Tryz.sizeOf51 encI hk (fun x => bys_one x.1) cfI swoI 183 #[] g 0 cap M.toArray w (enters_of Tryz.func183 (by kernel_rfl) rfl)
    (fun _ _ _ _ x y => compare_any _ x.1 y.1 x.2 y.2) hH hlt (by simp at hn ⊢; omega)
  change Calls Tryz.prog 211 _ _ _ at hcon
  have e1 : (M.map (·.1)).length = M.toArray.size := by simp
  rw [e1]
  refine hcon.mono ?_
  rintro e w2 ⟨rfl, d2, n, ob, hp, _, rfl⟩
  have hs : d2.size = M.toArray.size := hp.1
  have hH2 := holds_sort (enc := encI) (k := 32) hH hs hlt n ob
  have hc := chs_sort (enc := encI) (k := 32) (blk := g) (w := w) (d := d2) n ob
  refine ⟨rfl, d2.toList.map (·.1), (perm_list hp).map _, ?_, hc⟩
  rw [hfl]
  exact rv_of_holds hk hH2 (Nat.lt_of_lt_of_le hlt hc.size)
set_option maxRecDepth 100000 in
set_option maxHeartbeats 1000000 in
theorem clone_any (w : World) (b c : Nat) (L : List (List UInt8)) (hL : ∀ x ∈ L, x.length = 32) (hn : L.length ≤ 40) (hr : Rv w.heap.size w (some ⟨b, 0, none⟩) (L.flatMap bys)) :
    Calls Tryz.prog 210 #[.slice (some ⟨b, 0, none⟩) L.length c] w fun e w2 => ∃ v, e = .returned v ∧ w2.ownsRow w.heap.size 51 32 v L.length (L.flatMap bys) ∧ Below w.heap.size w w2 := by
  obtain ⟨i0, h1, h2⟩ := Option.map_eq_some_iff.1 (show (Tryz.prog.info? 51).map (fun i => (i.zero, i.size, i.bytes)) = some (some (.agg z42), 32, 32) by kernel_rfl)
  simp only [Prod.mk.injEq] at h2
  have hlen : (L.flatMap bys).length = L.length * 32 := by
    clear hr hn
    induction L with
    | nil => rfl
    | cons x L ih => rw [List.flatMap_cons, List.length_append, bys_len, hL x (by simp), ih (fun y hy => hL y (by simp [hy])), List.length_cons]; omega
  have hcon := AnyE.slices_Clone Tryz.cloneID i0 (.agg z42) 32 32 h1 h2.1 h2.2.1 h2.2.2 rfl (by omega) Tryz.sizeOf51 b 0 L.length c (L.flatMap bys) w hlen (small_len (by omega)) (by omega) (fun j u hj => by
    obtain ⟨ad, e, _, hc⟩ := hr.at_ hj
    obtain rfl := Option.some.inj e
    rwa [Addr.add_lit] at hc) (fun u hu => by
    obtain ⟨x, _, hx⟩ := List.mem_flatMap.1 hu
    exact bys_one x u hx)
  change Calls Tryz.prog 210 _ _ _ at hcon
  refine hcon.mono ?_
  rintro e w2 ⟨v, rfl, ho, _, hb⟩
  exact ⟨v, rfl, ho, hb⟩
set_option maxRecDepth 100000 in
set_option maxHeartbeats 1000000 in
theorem sorted_some (w : World) (b c : Nat) (L : List (List UInt8)) (hL : ∀ x ∈ L, x.length = 32) (hnd : L.Nodup) (hn : L.length ≤ 40) (h0 : 0 < L.length) (hr : Rv w.heap.size w (some ⟨b, 0, none⟩) (L.flatMap bys)) :
    Calls Tryz.prog 159 #[.slice (some ⟨b, 0, none⟩) L.length c] w fun e w2 => (∃ D c2, e = .returned (.slice D L.length c2)) ∧ Below w.heap.size w w2 := by
  go_enter Tryz.func159, Tryz.ntmps159
  go_wp2_with fail
  refine (clone_any w b c L hL hn hr).mono ?_
  rintro e w1 ⟨v, rfl, ho, hb1⟩
  obtain ⟨g, cap, cs, rfl, hgl, hcap, hblk, hrv⟩ := own_formk ho h0
  have K1 := hI hblk
  have V1 := hI hrv
  have B1 := hI hb1
  clear ho hb1 hblk hrv hr
  go_wp2_with fail
  refine (sort_ids w1 g cap cs L hL hn K1.out V1.out).mono ?_
  rintro e w2 ⟨rfl, L2, hp, hr2, hc2⟩
  have V2 := hI hr2
  have B2 := hI (B1.out.grown (row := some g) ⟨hc2.os, hc2.tape, hc2.output, hc2.size, fun k hk hn => hc2.block k hk (fun q => hn (by rw [q]))⟩ B1.out.size (fun k hk => by cases hk; exact hgl))
  have hl2 := hp.length_eq
  have HC := hI (compact_any w2 g cap L2 (fun x hx => hL x (hp.mem_iff.1 hx)) (hp.nodup_iff.2 hnd) (by omega) (by omega) V2.out)
  rw [hl2] at HC
  clear hr2 hc2
  go_wp2_with fail
  refine HC.out.mono ?_
  rintro e w3 ⟨rfl, hb3⟩
  have B3 := hI (B2.out.trans (hb3.mono B2.out.size))
  clear hb3
  go_wp2_with fail
  refine (clip_any w3 _ _ _ hcap).mono ?_
  rintro e w4 ⟨⟨D2, c2, rfl⟩, rfl⟩
  go_wp2_with fail
  go_ret
  exact ⟨⟨D2, c2, rfl⟩, B3.out⟩
set_option maxRecDepth 100000 in
set_option maxHeartbeats 1000000 in
theorem sorted_none (w : World) : Calls Tryz.prog 159 #[.slice none 0 0] w fun e w2 => (∃ D c2, e = .returned (.slice D 0 c2)) ∧ w = w2 := by
  have c1 := AnyE.slices_Clone_nil Tryz.cloneID 0 0 w
  change Calls Tryz.prog 210 _ _ _ at c1
  have c2 := AnyF.slices_SortFunc_none Tryz.sortID none 0 (.func (.func 183) #[] #[]) w
  change Calls Tryz.prog 211 _ _ _ at c2
  go_enter Tryz.func159, Tryz.ntmps159
  go_wp2_with fail
  refine c1.mono ?_
  rintro e w1 ⟨rfl, rfl⟩
  go_wp2_with fail
  refine c2.mono ?_
  rintro e w1 ⟨rfl, rfl⟩
  go_wp2
  go_ret
  exact ⟨⟨_, _, rfl⟩, rfl⟩
end Go.Proofs.YtbmpidacoohdmaaGreat
