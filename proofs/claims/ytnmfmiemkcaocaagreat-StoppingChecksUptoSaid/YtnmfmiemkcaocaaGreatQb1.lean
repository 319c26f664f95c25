/- Parts of the proof, joined: Base, Lim, Len, NatA, Blk, Shl, Mul, NatB, Add, Sub, DivS, Shr. No condition. -/
import Derived.Test.YtnmfmiemkcaocaaGreatQb0
import Derived.Test.YtnmfmiemkcaocaaGreatProg
import Derived.Lib.Bytealg
import Derived.Lib.Strings
import Derived.WalkMore
set_option maxHeartbeats 8000000
set_option maxRecDepth 100000
namespace Go.Proofs.YtnmfmiemkcaocaaGreat.Hand
open Go.RowKit Go.Proofs.YtnmfmiemkcaocaaGreatW.PrintWords Go.Proofs.YtnmfmiemkcaocaaGreatW.PrintLast Go.Proofs.YtnmfmiemkcaocaaGreatW.PrintMore
set_option linter.unusedVariables false
set_option linter.unusedSimpArgs false
def tl : List Int → Nat
 | [] => 0
 | x :: xs => if tl xs = 0 then (if x = 0 then 0 else 1) else tl xs + 1
theorem tl_le : ∀ xs : List Int, tl xs ≤ xs.length
 | [] => Nat.le_refl _
 | x :: xs => by
  have := tl_le xs
  unfold tl
  simp only [List.length_cons]
  split
  ·
   split <;> omega
  ·
   omega
theorem tl_zero : ∀ (xs : List Int) (j : Nat), tl xs ≤ j → xs.getD j 0 = 0
 | [], j, _ => by simp
 | x :: xs, j, h => by
  have ih := tl_zero xs
  unfold tl at h
  split at h
  ·
   rename_i h0
   cases j with
   | zero =>
    split at h
    ·
     rename_i h1; simpa using h1
    ·
     omega
   | succ j => simpa using ih j (by omega)
  ·
   cases j with
   | zero => omega
   | succ j => simpa using ih j (by omega)
theorem tl_last : ∀ (xs : List Int), tl xs ≠ 0 → xs.getD (tl xs - 1) 0 ≠ 0
 | [], h => absurd rfl h
 | x :: xs, h => by
  have ih := tl_last xs
  unfold tl at h ⊢
  by_cases h0 : tl xs = 0
  ·
   rw [if_pos h0] at h ⊢
   by_cases h1 : x = 0
   ·
    rw [if_pos h1] at h; exact absurd rfl h
   ·
    rw [if_neg h1]; simpa using h1
  ·
   rw [if_neg h0]
   have := ih h0
   obtain ⟨m, hm⟩ : ∃ m, tl xs = m + 1 := ⟨tl xs - 1, by omega⟩
   rw [hm] at this ⊢
   simpa using this
theorem tl_eq (xs : List Int) (n : Nat) (h1 : ∀ j, n ≤ j → xs.getD j 0 = 0) (h2 : n ≠ 0 → xs.getD (n - 1) 0 ≠ 0) : tl xs = n := by
 rcases Nat.lt_trichotomy (tl xs) n with h | h | h
 ·
  exact absurd (tl_zero xs (n - 1) (by omega)) (h2 (by omega))
 ·
  exact h
 ·
  exact absurd (h1 (tl xs - 1) (by omega)) (tl_last xs (by omega))
theorem cut_to3 {P : Program} (t e : TypeId) {i : TypeInfo} (ht : P.underlying t = some (.slice e)) (hi : P.info? e = some i) (A : Option Addr) (n c : Nat) (j : Int) (h0 : 0 ≤ j) (hm : j ≤ n) (hc : n ≤ c) :
  ∀ W : World, (Instr.slice t (.slice A n c) none (some (.int .i64 j)) (some (.int .i64 j))).run P W = .ok (.slice A j.toNat j.toNat) W := by
 intro W
 have hel : P.elem t = e := by simp [Program.elem, ht]
 have hu : P.underlying t = some (.slice (P.elem t)) := by rw [hel]; exact ht
 have ha : (A.map fun x => x.add 0) = A := by cases A <;> simp [Addr.add]
 have ej : (j.toNat : Int) = j := Int.toNat_of_nonneg h0
 have hjc : j ≤ (c : Int) := by omega
 simp [Instr.slice, run_underlying hu, Instr.sliceBounds, run_sliceBound, sliced, h0, hjc, ej, hel, sizeOf, typeInfo, hi, Result.andThen, ha]
theorem info52 : (Tryz.prog.info? 52).map (fun i => (i.zero, i.size, i.bytes)) = some (some (.int .u32 0), 1, 4) := by kernel_rfl
def Rd (w : World) (v : Value) (xs : List Int) : Prop := ∃ A c, v = .slice A xs.length c ∧ xs.length ≤ c ∧ Kd.C (Kd.int .u32) w A xs.length xs
theorem Rd.below {w w1 : World} {v : Value} {xs : List Int} (h : Rd w v xs) (hb : Below w.heap.size w w1) : Rd w1 v xs := by
 obtain ⟨A, c, e, hc, hr⟩ := h
 exact ⟨A, c, e, hc, Kd.C_below hr hb⟩
theorem nat_trim.run (l0 : List Int) (A0 : Option Addr) (c0 : Nat) (w : World) (hr0 : Kd.C (Kd.int .u32) w A0 l0.length l0) (hc0 : l0.length ≤ c0) :
  Calls Tryz.prog 96 #[.slice A0 l0.length c0] w fun e w' => e = .returned (.slice A0 (tl l0) (tl l0)) ∧ w' = w := by
 have HR0 := Aside0.mk hr0
 have HC0 := Aside0.mk hc0
 clear hr0 hc0
 go_enter Tryz.func96, Tryz.ntmps96
 go_wp2
 go_loopg [3] l0.length (fun kq v3 w' => ∃ x : Int, v3 = .int .i64 x ∧ w' = w ∧ Aside0 (x = (kq : Int) ∧ kq ≤ l0.length ∧ ∀ j, kq ≤ j → l0.getD j 0 = 0))
 case atStart => exact ⟨_, rfl, rfl, ⟨rfl, Nat.le_refl _, fun j hj => by rw [List.getD_eq_getElem?_getD, List.getElem?_eq_none hj]; rfl⟩⟩
 case round =>
  obtain ⟨x, rfl, rfl, HA⟩ := hrel
  have hm : l0.length ≤ 9223372036854775807 := HR0.out.2.1
  by_cases cz : 0 < x
  ·
   have c1 : decide (0 < x) = true := decide_eq_true cz
   obtain ⟨n, hn, hk⟩ : ∃ n, gk = n + 1 ∧ n < l0.length := ⟨gk - 1, by have := HA.out; omega, by have := HA.out; omega⟩
   subst hn
   obtain ⟨y, hy⟩ : ∃ y, IntKind.i64.wrap (x - 1) = y := ⟨_, rfl⟩
   have e1 : y = (n : Int) := by have := HA.out.1; rw [← hy, i64_w]; unfold wrap64; omega
   have p1 : 0 ≤ y := by omega
   have q1 : y < (l0.length : Int) := by omega
   obtain ⟨ad, ea, hx⟩ := Kd.at_int HR0.out y p1 q1
   cases ea
   have E1 := Aside0.mk e1
   have K1 := Aside0.mk hk
   clear hm e1 cz hk
   replace p1 := eq_true p1
   replace q1 := eq_true q1
   by_cases c2 : rd l0 y = 0
   ·
    have c3 : (rd l0 y == 0) = true := beq_iff_eq.mpr c2
    have C2 := Aside0.mk c2
    clear c2
    go_wp2
    go_roundg n
    case measure => omega
    case rel =>
     refine ⟨_, rfl, rfl, ⟨E1.out, by have := K1.out; omega, fun j hj => ?_⟩⟩
     rcases Nat.eq_or_lt_of_le hj with h | h
     ·
      rw [← h]; have := C2.out; rw [E1.out] at this; simpa [rd] using this
     ·
      exact HA.out.2.2 j h
   ·
    have c3 : (rd l0 y == 0) = false := beq_eq_false_iff_ne.mpr c2
    have ht : tl l0 = n + 1 := tl_eq l0 (n + 1) HA.out.2.2 (fun _ => by rw [E1.out] at c2; simpa [rd] using c2)
    have hxn : x = ((n + 1 : Nat) : Int) := HA.out.1
    obtain ⟨i0, hi0, _, hsz, _⟩ := info_parts info52
    have hcut := cut_to3 (P := Tryz.prog) 30 52 Tryz.underlying30 hi0 (some ad) l0.length c0 x (by omega) (by have := K1.out; omega) HC0.out
    have T1 := Aside0.mk (show x.toNat = tl l0 by omega)
    clear c2 ht hi0 hsz
    clear hxn
    go_wp2
    go_ret
    exact ⟨by first | rfl | (rw [← T1.out]; rfl), rfl⟩
  ·
   have c1 : decide (0 < x) = false := decide_eq_false cz
   have h0 : gk = 0 := by have := HA.out; omega
   subst h0
   have ht : tl l0 = 0 := tl_eq l0 0 HA.out.2.2 (fun h => absurd rfl h)
   have hxn : x = 0 := by have := HA.out; omega
   obtain ⟨i0, hi0, _, hsz, _⟩ := info_parts info52
   have hcut := cut_to3 (P := Tryz.prog) 30 52 Tryz.underlying30 hi0 A0 l0.length c0 x (by omega) (by omega) HC0.out
   have T1 := Aside0.mk (show x.toNat = tl l0 by omega)
   clear ht hi0 hsz hm cz
   clear hxn
   go_wp2
   go_ret
   exact ⟨by first | rfl | (rw [← T1.out]; rfl), rfl⟩
end Go.Proofs.YtnmfmiemkcaocaaGreat.Hand
namespace Go.Proofs.YtnmfmiemkcaocaaGreat.Hand
open Go.RowKit Go.Proofs.YtnmfmiemkcaocaaGreatW.PrintWords
def Rg (xs : List Int) : Prop := ∀ x ∈ xs, 0 ≤ x ∧ x < 4294967296
def nv : List Int → Nat
 | [] => 0
 | x :: xs => x.toNat + 4294967296 * nv xs
def pw (i : Nat) : Nat := 4294967296 ^ i
theorem pw_zero : pw 0 = 1 := rfl
theorem pw_succ (i : Nat) : pw (i + 1) = 4294967296 * pw i := by unfold pw; rw [Nat.pow_succ, Nat.mul_comm]
theorem pw_add (i j : Nat) : pw (i + j) = pw i * pw j := by unfold pw; rw [Nat.pow_add]
theorem pw_pos (i : Nat) : 0 < pw i := Nat.pow_pos (by omega)
theorem pw_le {i j : Nat} (h : i ≤ j) : pw i ≤ pw j := Nat.pow_le_pow_right (by omega) h
attribute [irreducible] pw
theorem Rg.nil : Rg [] := fun _ h => by simp at h
theorem Rg.tail {x : Int} {xs : List Int} (h : Rg (x :: xs)) : Rg xs := fun y hy => h y (by simp [hy])
theorem Rg.take {xs : List Int} (h : Rg xs) (n : Nat) : Rg (xs.take n) := fun y hy => h y (List.mem_of_mem_take hy)
theorem Rg.drop {xs : List Int} (h : Rg xs) (n : Nat) : Rg (xs.drop n) := fun y hy => h y (List.mem_of_mem_drop hy)
theorem Rg.get {xs : List Int} (h : Rg xs) (i : Nat) : 0 ≤ xs.getD i 0 ∧ xs.getD i 0 < 4294967296 := by
 rcases Nat.lt_or_ge i xs.length with hi | hi
 ·
  rw [List.getD_eq_getElem?_getD, List.getElem?_eq_getElem hi]
  exact h _ (List.getElem_mem hi)
 ·
  rw [List.getD_eq_getElem?_getD, List.getElem?_eq_none hi]
  simp
theorem Rg.rd {xs : List Int} (h : Rg xs) (i : Int) : 0 ≤ rd xs i ∧ rd xs i < 4294967296 := h.get _
theorem Rg.set {xs : List Int} (h : Rg xs) (i : Nat) {v : Int} (h0 : 0 ≤ v) (h1 : v < 4294967296) : Rg (xs.set i v) := fun y hy => by
 rcases List.mem_or_eq_of_mem_set hy with hy | rfl
 ·
  exact h y hy
 ·
  exact ⟨h0, h1⟩
theorem Rg.append {xs ys : List Int} (h : Rg xs) (h' : Rg ys) : Rg (xs ++ ys) := fun y hy => by
 rcases List.mem_append.1 hy with hy | hy
 ·
  exact h y hy
 ·
  exact h' y hy
theorem Rg.zeros (n : Nat) : Rg (List.replicate n 0) := fun y hy => by
 rw [List.eq_of_mem_replicate hy]
 omega
theorem Rg.one {v : Int} (h0 : 0 ≤ v) (h1 : v < 4294967296) : Rg [v] := fun y hy => by
 simp only [List.mem_singleton] at hy
 subst hy
 exact ⟨h0, h1⟩
theorem nv_append (ys : List Int) : ∀ xs : List Int, nv (xs ++ ys) = nv xs + pw xs.length * nv ys
 | [] => by simp [nv, pw_zero]
 | x :: xs => by
  have ih := nv_append ys xs
  simp only [List.cons_append, nv, List.length_cons, pw_succ]
  rw [ih]
  grind
theorem nv_lt : ∀ {xs : List Int}, Rg xs → nv xs < pw xs.length
 | [], _ => by simp [nv, pw_zero]
 | x :: xs, h => by
  have ih := nv_lt h.tail
  have hx := h x (by simp)
  simp only [nv, List.length_cons, pw_succ]
  omega
theorem nv_split (xs : List Int) (n : Nat) (h : n ≤ xs.length) : nv xs = nv (xs.take n) + pw n * nv (xs.drop n) := by
 have := nv_append (xs.drop n) (xs.take n)
 rw [List.take_append_drop, List.length_take, Nat.min_eq_left h] at this
 exact this
theorem nv_zeros : ∀ n, nv (List.replicate n 0) = 0
 | 0 => rfl
 | n + 1 => by
  simp [List.replicate_succ, nv, nv_zeros n]
theorem nv_zero_of {xs : List Int} (h : ∀ j, xs.getD j 0 = 0) : nv xs = 0 := by
 induction xs with
 | nil => rfl
 | cons x xs ih =>
  have h0 := h 0
  have := ih (fun j => by simpa using h (j + 1))
  simp only [List.getD_cons_zero] at h0
  simp [nv, this, h0]
theorem nv_take_succ (xs : List Int) (i : Nat) (h : i < xs.length) : nv (xs.take (i + 1)) = nv (xs.take i) + pw i * (xs.getD i 0).toNat := by
 have e : xs.take (i + 1) = xs.take i ++ [xs.getD i 0] := by
  rw [List.take_add_one, List.getD_eq_getElem?_getD, List.getElem?_eq_getElem h]
  rfl
 rw [e, nv_append, List.length_take, Nat.min_eq_left (Nat.le_of_lt h)]
 simp [nv]
theorem nv_drop (xs : List Int) (i : Nat) (h : i < xs.length) : nv (xs.drop i) = (xs.getD i 0).toNat + 4294967296 * nv (xs.drop (i + 1)) := by
 rw [List.drop_eq_getElem_cons h]
 simp [nv, List.getD_eq_getElem?_getD, List.getElem?_eq_getElem h]
theorem nv_trim (xs : List Int) : nv (xs.take (tl xs)) = nv xs := by
 rw [nv_split xs (tl xs) (tl_le xs)]
 rw [nv_zero_of (xs := xs.drop (tl xs)) (fun j => by
  have := tl_zero xs (tl xs + j) (by omega)
  simpa [List.getD_eq_getElem?_getD, List.getElem?_drop] using this)]
 simp
theorem nv_set (xs : List Int) (i : Nat) (v : Int) (h : i < xs.length) : nv (xs.set i v) + pw i * (xs.getD i 0).toNat = nv xs + pw i * v.toNat := by
 induction xs generalizing i with
 | nil => simp at h
 | cons x xs ih =>
  cases i with
  | zero => simp [nv, pw_zero]; omega
  | succ i =>
   have := ih i (by simpa using h)
   simp only [List.set_cons_succ, nv, List.getD_cons_succ, pw_succ]
   grind
def Can (xs : List Int) : Prop := Rg xs ∧ tl xs = xs.length
theorem tl_ge {xs : List Int} (h : Rg xs) (hp : tl xs ≠ 0) : pw (tl xs - 1) ≤ nv xs := by
 have hl := tl_last xs hp
 have hg := h.get (tl xs - 1)
 have ht := tl_le xs
 obtain ⟨m, hm⟩ : ∃ m, tl xs = m + 1 := ⟨tl xs - 1, by omega⟩
 rw [← nv_trim xs, hm, nv_take_succ xs m (by omega)]
 rw [hm] at hl hg
 simp only [Nat.add_sub_cancel] at hl hg ⊢
 have : 1 ≤ (xs.getD m 0).toNat := by omega
 calc pw m = pw m * 1 := by omega
  _ ≤ pw m * (xs.getD m 0).toNat := Nat.mul_le_mul_left _ this
  _ ≤ _ := by omega
theorem nv_lt_tl {xs : List Int} (h : Rg xs) : nv xs < pw (tl xs) := by
 have := nv_lt (h.take (tl xs))
 rw [nv_trim, List.length_take, Nat.min_eq_left (tl_le xs)] at this
 exact this
theorem tl_eq_zero {xs : List Int} (h : Rg xs) : tl xs = 0 ↔ nv xs = 0 := by
 constructor
 ·
  intro h0
  have := nv_lt_tl h
  rw [h0, pw_zero] at this
  omega
 ·
  intro h0
  rcases Nat.eq_zero_or_pos (tl xs) with h1 | h1
  ·
   exact h1
  ·
   have := tl_ge h (by omega)
   have := pw_pos (tl xs - 1)
   omega
theorem tl_le_of {xs : List Int} (h : Rg xs) {n : Nat} (hn : nv xs < pw n) : tl xs ≤ n := by
 rcases Nat.lt_or_ge n (tl xs) with h1 | h1
 ·
  have := tl_ge h (by omega)
  have := pw_le (i := n) (j := tl xs - 1) (by omega)
  omega
 ·
  exact h1
theorem nv_lt_of_tl {xs ys : List Int} (hx : Rg xs) (hy : Rg ys) (h : tl xs < tl ys) : nv xs < nv ys := by
 have h1 := nv_lt_tl hx
 have h2 := tl_ge hy (by omega)
 have := pw_le (i := tl xs) (j := tl ys - 1) (by omega)
 omega
theorem tl_take (xs : List Int) : tl (xs.take (tl xs)) = tl xs := by
 have hl := tl_le xs
 refine tl_eq _ _ (fun j hj => ?_) (fun h => ?_)
 ·
  rw [List.getD_eq_getElem?_getD, List.getElem?_eq_none (by rw [List.length_take]; omega)]
  rfl
 ·
  have := tl_last xs h
  rw [List.getD_eq_getElem?_getD, List.getElem?_take, if_pos (by omega), ← List.getD_eq_getElem?_getD]
  exact this
theorem Can.trim {xs : List Int} (h : Rg xs) : Can (xs.take (tl xs)) := by
 refine ⟨h.take _, ?_⟩
 rw [tl_take, List.length_take, Nat.min_eq_left (tl_le xs)]
theorem Can.len {xs : List Int} (h : Can xs) {n : Nat} (hn : nv xs < pw n) : xs.length ≤ n := by rw [← h.2]; exact tl_le_of h.1 hn
theorem Can.nil : Can [] := ⟨Rg.nil, rfl⟩
theorem Can.zero {xs : List Int} (h : Can xs) : xs.length = 0 ↔ nv xs = 0 := by rw [← h.2]; exact tl_eq_zero h.1
theorem nv_inj : ∀ {xs ys : List Int}, Rg xs → Rg ys → xs.length = ys.length → nv xs = nv ys → xs = ys
 | [], [], _, _, _, _ => rfl
 | [], _ :: _, _, _, h, _ => by simp at h
 | _ :: _, [], _, _, h, _ => by simp at h
 | x :: xs, y :: ys, hx, hy, hl, h => by
  have h1 := hx x (by simp)
  have h2 := hy y (by simp)
  simp only [nv] at h
  have e1 : x = y := by omega
  have e2 : nv xs = nv ys := by omega
  rw [e1, nv_inj hx.tail hy.tail (by simpa using hl) e2]
theorem Can.inj {xs ys : List Int} (hx : Can xs) (hy : Can ys) (h : nv xs = nv ys) : xs = ys := by
 refine nv_inj hx.1 hy.1 ?_ h
 have h1 := hx.len (h ▸ nv_lt hy.1)
 have h2 := hy.len (h.symm ▸ nv_lt hx.1)
 omega
end Go.Proofs.YtnmfmiemkcaocaaGreat.Hand
namespace Go.Proofs.YtnmfmiemkcaocaaGreat.Hand
open Go.RowKit Go.Proofs.YtnmfmiemkcaocaaGreatW.PrintWords Go.Proofs.YtnmfmiemkcaocaaGreatW.PrintLast Go.Proofs.YtnmfmiemkcaocaaGreatW.PrintMore
set_option linter.unusedVariables false
set_option linter.unusedSimpArgs false
def LenOf (a r : Int) : Prop := 0 ≤ r ∧ r ≤ 32 ∧ (a = 0 → r = 0) ∧ a < 2 ^ r.toNat ∧ (a ≠ 0 → 1 ≤ r ∧ (2 : Int) ^ (r.toNat - 1) ≤ a)
def lg8 (i : Nat) : UInt8 := if i = 0 then 0 else (Nat.log2 i + 1).toUInt8
def tab8 : List UInt8 := (List.range 256).map lg8
theorem tab8_ok : ∀ i : Fin 256, LenOf i.val ((tab8.getD i.val 0).toNat : Int) ∧ (tab8.getD i.val 0).toNat ≤ 8 := by
 unfold LenOf
 decide +kernel
theorem tab8_at (s : ByteArray) (hs : s.data.toList = tab8) (j : Nat) (h : j < s.size) : LenOf j ((s[j]'h).toNat : Int) ∧ (s[j]'h).toNat ≤ 8 := by
 have hl : s.size = 256 := by
  have : s.data.toList.length = 256 := by rw [hs]; decide +kernel
  rw [Array.length_toList] at this
  exact this
 have := tab8_ok ⟨j, by omega⟩
 have e : s[j]'h = tab8.getD j 0 := by
  have h2 : j < s.data.toList.length := by rw [Array.length_toList]; exact h
  rw [← hs, List.getD_eq_getElem?_getD, List.getElem?_eq_getElem h2]
  simp [ByteArray.getElem_eq_getElem_data]
 rw [e]
 exact this
theorem len_up (a i : Int) (s : Nat) (v : Nat) (P : Int) (hP : P = 2 ^ s) (hs : s ≤ 24) (h0 : 0 ≤ a) (hi : a / P = i) (hv : v ≤ 8) (h : LenOf i v) (hn : i ≠ 0 ∨ s = 0) : LenOf a (s + v) := by
 obtain ⟨_, _, hz, hu, hl⟩ := h
 have hp : 0 < P := by rw [hP]; exact Int.pow_pos (by omega)
 have hd := Int.mul_ediv_add_emod a P
 have hm0 := Int.emod_nonneg a (show P ≠ 0 by omega)
 have hm1 := Int.emod_lt_of_pos a hp
 rw [hi] at hd
 have e1 : ((s : Int) + v).toNat = s + v := by omega
 refine ⟨by omega, by omega, fun ha => ?_, ?_, fun ha => ?_⟩
 ·
  subst ha
  have : i = 0 := by rw [← hi]; simp
  have := hz this
  rcases hn with hn | hn <;> omega
 ·
  rw [e1, Int.pow_add, ← hP]
  simp only [Int.toNat_natCast] at hu
  have : i + 1 ≤ 2 ^ v := hu
  have := Int.mul_le_mul_of_nonneg_left this (Int.le_of_lt hp)
  have e : P * (i + 1) = P * i + P := by rw [Int.mul_add, Int.mul_one]
  omega
 ·
  have hi0 : i ≠ 0 := by
   rcases hn with hn | hn
   ·
    exact hn
   ·
    subst hn
    simp at hP
    subst hP
    omega
  obtain ⟨hv1, hle⟩ := hl hi0
  have hv1 : 1 ≤ v := by omega
  refine ⟨by omega, ?_⟩
  rw [e1, show s + v - 1 = s + (v - 1) by omega, Int.pow_add, ← hP]
  simp only [Int.toNat_natCast] at hle
  have := Int.mul_le_mul_of_nonneg_left hle (Int.le_of_lt hp)
  omega
theorem wrap_small (x : Int) (h0 : 0 ≤ x) (h1 : x ≤ 1000) : wrap64 x = x := by unfold wrap64; omega
theorem len_fin (a i N : Int) (s : ByteArray) (h : i.toNat < s.size) (n : Nat) (P : Int) (hN : N = n) (hP : P = 2 ^ n) (hn : n ≤ 24) (h0 : 0 ≤ a) (hi : a / P = i) (hne : i ≠ 0 ∨ n = 0) (hs : s.data.toList = tab8) (hi0 : 0 ≤ i) : LenOf a (wrap64 (N + wrap64 ((s[i.toNat]'h).toNat : Int))) := by
 have := tab8_at s hs i.toNat h
 rw [Int.toNat_of_nonneg hi0] at this
 rw [wrap_small ((s[i.toNat]'h).toNat : Int) (by omega) (by omega), wrap_small _ (by omega) (by omega), hN]
 exact len_up a i n _ P hP hn h0 hi this.2 this.1 hne
theorem len_fin0 (a : Int) (s : ByteArray) (h : a.toNat < s.size) (h0 : 0 ≤ a) (hs : s.data.toList = tab8) : LenOf a (wrap64 (wrap64 ((s[a.toNat]'h).toNat : Int))) := by
 have := len_fin a a 0 s h 0 1 rfl (by decide) (by omega) h0 (by omega) (by omega) hs h0
 rwa [Int.zero_add] at this
theorem bits_Len32.run (a : Int) (h0 : 0 ≤ a) (h1 : a < 4294967296) (w : World) :
  Calls Tryz.prog 97 #[.int .u32 a] w fun e w' => ∃ r : Int, e = .returned (.int .i64 r) ∧ LenOf a r ∧ w' = w := by
 go_enter Tryz.func97, Tryz.ntmps97
 by_cases c : 65536 ≤ a
 ·
  have c1 : decide (65536 ≤ a) = true := decide_eq_true c
  by_cases d : 256 ≤ a / 65536
  ·
   have d1 : decide (256 ≤ a / 65536) = true := decide_eq_true d
   have hz : 0 ≤ a / 65536 / 256 := by omega
   have hz1 : a / 65536 / 256 < 256 := by omega
   go_wp2
   go_ret
   refine ⟨_, rfl, ?_, rfl⟩
   exact len_fin a (a / 65536 / 256) _ _ _ 24 16777216 rfl (by decide) (by omega) h0 (by omega) (by omega) (by decide +kernel) hz
  ·
   have d1 : decide (256 ≤ a / 65536) = false := decide_eq_false d
   have hz : 0 ≤ a / 65536 := by omega
   have hz1 : a / 65536 < 256 := by omega
   go_wp2
   go_ret
   refine ⟨_, rfl, ?_, rfl⟩
   exact len_fin a (a / 65536) _ _ _ 16 65536 rfl (by decide) (by omega) h0 (by omega) (by omega) (by decide +kernel) hz
 ·
  have c1 : decide (65536 ≤ a) = false := decide_eq_false c
  by_cases d : 256 ≤ a
  ·
   have d1 : decide (256 ≤ a) = true := decide_eq_true d
   have hz : 0 ≤ a / 256 := by omega
   have hz1 : a / 256 < 256 := by omega
   go_wp2
   go_ret
   refine ⟨_, rfl, ?_, rfl⟩
   exact len_fin a (a / 256) _ _ _ 8 256 rfl (by decide) (by omega) h0 (by omega) (by omega) (by decide +kernel) hz
  ·
   have d1 : decide (256 ≤ a) = false := decide_eq_false d
   have hz1 : a < 256 := by omega
   go_wp2
   go_ret
   refine ⟨_, rfl, ?_, rfl⟩
   exact len_fin0 a _ _ h0 (by decide +kernel)
theorem bits_LeadingZeros32.run (a : Int) (h0 : 0 ≤ a) (h1 : a < 4294967296) (w : World) :
  Calls Tryz.prog 112 #[.int .u32 a] w fun e w' => ∃ r : Int, e = .returned (.int .i64 (32 - r)) ∧ LenOf a r ∧ w' = w := by
 go_enter Tryz.func112, Tryz.ntmps112
 go_wp2_with (first | (go_at_call 97; (with_reducible refine (bits_Len32.run a h0 h1 _).mono ?_); rintro e w1 ⟨r, rfl, hr, rfl⟩; have HR := Aside0.mk hr; clear hr; have hw : IntKind.i64.wrap (32 - r) = 32 - r := (by have := HR.out.1; have := HR.out.2.1; rw [i64_w]; unfold wrap64; omega)))
 go_ret
 exact ⟨_, rfl, HR.out, rfl⟩
end Go.Proofs.YtnmfmiemkcaocaaGreat.Hand
namespace Go.Proofs.YtnmfmiemkcaocaaGreat.Hand
open Go.RowKit Go.Proofs.YtnmfmiemkcaocaaGreatW.PrintWords Go.Proofs.YtnmfmiemkcaocaaGreatW.PrintLast Go.Proofs.YtnmfmiemkcaocaaGreatW.PrintMore
set_option linter.unusedVariables false
set_option linter.unusedSimpArgs false
def NA (w : World) (v : Value) (n L : Nat) : Prop := ∃ xs, Rd w v xs ∧ Rg xs ∧ nv xs = n ∧ xs.length ≤ L
def NC (w : World) (v : Value) (n L : Nat) : Prop := ∃ xs, Rd w v xs ∧ Can xs ∧ nv xs = n ∧ xs.length ≤ L
theorem NC.na {w : World} {v : Value} {n L : Nat} (h : NC w v n L) : NA w v n L := by
 obtain ⟨xs, hr, hc, hn, hl⟩ := h
 exact ⟨xs, hr, hc.1, hn, hl⟩
theorem NA.below {w w1 : World} {v : Value} {n L : Nat} (h : NA w v n L) (hb : Below w.heap.size w w1) : NA w1 v n L := by
 obtain ⟨xs, hr, hc, hn, hl⟩ := h
 exact ⟨xs, hr.below hb, hc, hn, hl⟩
theorem NC.below {w w1 : World} {v : Value} {n L : Nat} (h : NC w v n L) (hb : Below w.heap.size w w1) : NC w1 v n L := by
 obtain ⟨xs, hr, hc, hn, hl⟩ := h
 exact ⟨xs, hr.below hb, hc, hn, hl⟩
theorem NA.mono {w : World} {v : Value} {n L L' : Nat} (h : NA w v n L) (hL : L ≤ L') : NA w v n L' := by
 obtain ⟨xs, hr, hc, hn, hl⟩ := h
 exact ⟨xs, hr, hc, hn, by omega⟩
theorem NC.mono {w : World} {v : Value} {n L L' : Nat} (h : NC w v n L) (hL : L ≤ L') : NC w v n L' := by
 obtain ⟨xs, hr, hc, hn, hl⟩ := h
 exact ⟨xs, hr, hc, hn, by omega⟩
theorem NA.lt {w : World} {v : Value} {n L : Nat} (h : NA w v n L) : n < pw L := by
 obtain ⟨xs, hr, hc, hn, hl⟩ := h
 have := nv_lt hc
 have := pw_le hl
 omega
theorem Rd.trim {w : World} {A : Option Addr} {xs : List Int} (hr : Kd.C (Kd.int .u32) w A xs.length xs) : Rd w (.slice A (tl xs) (tl xs)) (xs.take (tl xs)) := by
 have hl : (xs.take (tl xs)).length = tl xs := by rw [List.length_take]; have := tl_le xs; omega
 refine ⟨A, tl xs, by rw [hl], by omega, ?_⟩
 exact Kd.C_take hr (tl_le xs)
theorem nat_trim.run' (xs : List Int) (v : Value) (w : World) (h : Rd w v xs) :
  Calls Tryz.prog 96 #[v] w fun e w' => ∃ A, e = .returned (.slice A (xs.take (tl xs)).length (tl xs)) ∧ w' = w ∧ Kd.C (Kd.int .u32) w A (xs.take (tl xs)).length (xs.take (tl xs)) := by
 obtain ⟨A, c, rfl, hc, hr⟩ := h
 have hl : (xs.take (tl xs)).length = tl xs := by rw [List.length_take]; have := tl_le xs; omega
 exact (nat_trim.run xs A c w hr hc).mono fun e w' ⟨he, hw⟩ => ⟨A, by rw [hl]; exact he, hw, Kd.C_take hr (tl_le xs)⟩
theorem nat_Bits.run (v : Value) (n L : Nat) (w : World) (h : NA w v n L) (hL : L ≤ 1000000000) :
  Calls Tryz.prog 65 #[v] w fun e w' => ∃ b : Int, e = .returned (.int .i64 b) ∧ w' = w ∧ (b = 0 ↔ n = 0) ∧ 0 ≤ b := by
 obtain ⟨xs, hr, hg, hn, hl⟩ := h
 have hlen : (xs.take (tl xs)).length = tl xs := by rw [List.length_take]; have := tl_le xs; omega
 obtain ⟨ys, hys⟩ : ∃ ys, xs.take (tl xs) = ys := ⟨_, rfl⟩
 have X := Aside0.mk (And.intro hg (And.intro hn (And.intro (show tl xs ≤ 1000000000 by have := tl_le xs; omega) (And.intro hlen hys))))
 have R := Aside0.mk hr
 clear hg hn hl hlen hr
 obtain ⟨m, hm⟩ : ∃ m, m = tl xs := ⟨_, rfl⟩
 go_enter Tryz.func65, Tryz.ntmps65
 by_cases c : ys.length = 0
 ·
  have c1 : ((ys.length : Int) == 0) = true := by rw [c]; rfl
  go_wp2_with (first | (go_at_call 96; (with_reducible refine (nat_trim.run' xs v w R.out).mono ?_); (rintro e w1 ⟨A, rfl, rfl, hc⟩; rw [hys] at hc ⊢; have C := Aside0.mk hc; clear hc)))
  go_ret
  refine ⟨0, rfl, rfl, ?_, Int.le_refl 0⟩
  obtain ⟨h1, h2, h3, h4, h5⟩ := X.out
  have := tl_eq_zero h1
  rw [hys] at h4
  omega
 ·
  have c1 : ((ys.length : Int) == 0) = false := by rw [beq_eq_false_iff_ne]; omega
  obtain ⟨h1, h2, h3, h4, h5⟩ := X.out
  rw [hys] at h4
  obtain ⟨j, hj⟩ : ∃ j, IntKind.i64.wrap ((ys.length : Int) - 1) = j := ⟨_, rfl⟩
  have ej : j = (ys.length : Int) - 1 := by rw [← hj, i64_w]; unfold wrap64; omega
  obtain ⟨q, hq⟩ : ∃ q, IntKind.i64.wrap (32 * j) = q := ⟨_, rfl⟩
  have eq : q = 32 * j := by rw [← hq, i64_w]; unfold wrap64; omega
  have p1 : 0 ≤ j := by omega
  have q1 : j < (ys.length : Int) := by omega
  have hgy : Rg ys := by rw [← h5]; exact h1.take _
  have hne : rd ys j ≠ 0 := by
   have := tl_last xs (by omega)
   have e : rd ys j = xs.getD (tl xs - 1) 0 := by
    unfold rd
    rw [show j.toNat = tl xs - 1 by omega, ← h5, List.getD_eq_getElem?_getD, List.getElem?_take, if_pos (by omega), List.getD_eq_getElem?_getD]
   rw [e]
   exact this
  have E := Aside0.mk (And.intro ej (And.intro eq (And.intro hne (And.intro (hgy.rd j) (And.intro h3 (And.intro c h4))))))
  clear ej eq hne h1 h2 h3 h4 hgy c
  go_wp2_with (first | (go_at_call 96; (with_reducible refine (nat_trim.run' xs v w R.out).mono ?_); (rintro e w1 ⟨A, rfl, rfl, hc⟩; rw [hys] at hc ⊢; obtain ⟨ad, ea, hx⟩ := Kd.at_int hc j p1 q1; cases ea; have C := Aside0.mk hc; clear hc; replace p1 := eq_true p1; replace q1 := eq_true q1)) | (go_at_call 97; (with_reducible refine (bits_Len32.run (rd ys j) E.out.2.2.2.1.1 E.out.2.2.2.1.2 _).mono ?_); (rintro e w1 ⟨r, rfl, hr, rfl⟩; have HR := Aside0.mk hr; clear hr)))
  go_ret
  refine ⟨_, rfl, rfl, ?_⟩
  obtain ⟨ej, eq, hne, hrd, h3, hc, h4⟩ := E.out
  obtain ⟨h1, h2, _, _, h5⟩ := X.out
  obtain ⟨r0, r1, _, _, r2⟩ := HR.out
  have := (r2 hne).1
  have h6 := tl_eq_zero h1
  unfold wrap64
  clear p1 q1
  constructor <;> omega
def cmpN (a b : Nat) : Int := if a < b then -1 else if b < a then 1 else 0
theorem lex_lt {xs ys : List Int} (hx : Rg xs) (hy : Rg ys) (k : Nat) (hl : xs.length = ys.length) (hk : k < xs.length) (hd : xs.drop (k + 1) = ys.drop (k + 1)) (h : xs.getD k 0 < ys.getD k 0) : nv xs < nv ys := by
 have e1 := nv_split xs k (by omega)
 have e2 := nv_split ys k (by omega)
 rw [nv_drop xs k hk] at e1
 rw [nv_drop ys k (by omega), ← hd] at e2
 have h1 := nv_lt (hx.take k)
 rw [List.length_take, Nat.min_eq_left (by omega)] at h1
 have g1 := hx.get k
 have g2 := hy.get k
 obtain ⟨d, hdd⟩ : ∃ d, (ys.getD k 0).toNat = (xs.getD k 0).toNat + 1 + d := ⟨(ys.getD k 0).toNat - (xs.getD k 0).toNat - 1, by omega⟩
 rw [hdd] at e2
 have e3 : pw k * ((xs.getD k 0).toNat + 1 + d + 4294967296 * nv (List.drop (k + 1) xs)) = pw k * ((xs.getD k 0).toNat + 4294967296 * nv (List.drop (k + 1) xs)) + pw k + pw k * d := by grind
 omega
theorem drop_eq {xs ys : List Int} (k : Nat) (hl : xs.length = ys.length) (hk : k < xs.length) (hd : xs.drop (k + 1) = ys.drop (k + 1)) (h : xs.getD k 0 = ys.getD k 0) : xs.drop k = ys.drop k := by
 rw [List.drop_eq_getElem_cons hk, List.drop_eq_getElem_cons (show k < ys.length by omega), hd]
 rw [List.getD_eq_getElem?_getD, List.getElem?_eq_getElem hk, List.getD_eq_getElem?_getD, List.getElem?_eq_getElem (show k < ys.length by omega)] at h
 simp only [Option.getD_some] at h
 rw [h]
theorem nat_Cmp.run (v u : Value) (a b L : Nat) (w : World) (hv : NA w v a L) (hu : NA w u b L) (hL : L ≤ 1000000000) :
  Calls Tryz.prog 68 #[v, u] w fun e w' => e = .returned (.int .i64 (cmpN a b)) ∧ ∃ n, w' = w.drewN n := by
 obtain ⟨xs0, hr1, hg1, hn1, hl1⟩ := hv
 obtain ⟨ys0, hr2, hg2, hn2, hl2⟩ := hu
 have hlen1 : (xs0.take (tl xs0)).length = tl xs0 := by rw [List.length_take]; have := tl_le xs0; omega
 have hlen2 : (ys0.take (tl ys0)).length = tl ys0 := by rw [List.length_take]; have := tl_le ys0; omega
 obtain ⟨xs, hxs⟩ : ∃ xs, xs0.take (tl xs0) = xs := ⟨_, rfl⟩
 obtain ⟨ys, hys⟩ : ∃ ys, ys0.take (tl ys0) = ys := ⟨_, rfl⟩
 have X := Aside0.mk (show Can xs ∧ nv xs = a ∧ xs.length ≤ L by rw [← hxs]; exact ⟨Can.trim hg1, by rw [nv_trim, hn1], by have := tl_le xs0; omega⟩)
 have Y := Aside0.mk (show Can ys ∧ nv ys = b ∧ ys.length ≤ L by rw [← hys]; exact ⟨Can.trim hg2, by rw [nv_trim, hn2], by have := tl_le ys0; omega⟩)
 have R1 := Aside0.mk hr1
 have R2 := Aside0.mk hr2
 clear hr1 hr2 hg1 hg2 hn1 hn2 hl1 hl2 hlen1 hlen2
 have HL := Aside0.mk hL
 clear hL
 by_cases c : xs.length = ys.length
 ·
  have c1 : ((xs.length : Int) == (ys.length : Int)) = true := by rw [beq_iff_eq]; omega
  have c2 : ((xs.length : Int) != (ys.length : Int)) = false := by rw [bne_eq_false_iff_eq]; omega
  have C := Aside0.mk c
  clear c
  obtain ⟨j, hj⟩ : ∃ j, IntKind.i64.wrap ((xs.length : Int) - 1) = j := ⟨_, rfl⟩
  have J := Aside0.mk (show j = (xs.length : Int) - 1 by have := X.out.2.2; have := HL.out; rw [← hj, i64_w]; unfold wrap64; omega)
  go_enter Tryz.func68, Tryz.ntmps68
  go_wp2_with (first | (go_at_call 96; (with_reducible refine (nat_trim.run' xs0 v _ R1.out).mono ?_); (rintro e w1 ⟨A, rfl, rfl, hc⟩; rw [hxs] at hc ⊢; have H1 := Aside0.mk hc; clear hc)) | (go_at_call 96; (with_reducible refine (nat_trim.run' ys0 u _ R2.out).mono ?_); (rintro e w2 ⟨A2, rfl, rfl, hc⟩; rw [hys] at hc ⊢; have H2 := Aside0.mk hc; clear hc)))
  go_loopg [7] xs.length (fun kq v7 w' => ∃ x, v7 = .int .i64 x ∧ Aside0 (x = (kq : Int) - 1 ∧ kq ≤ xs.length ∧ xs.drop kq = ys.drop kq) ∧ Aside0 (∃ n, w' = w2.drewN n))
  case atStart => exact ⟨_, rfl, ⟨J.out, Nat.le_refl _, by rw [List.drop_length, C.out, List.drop_length]⟩, ⟨0, rfl⟩⟩
  case round =>
   obtain ⟨x, rfl, HA, HW⟩ := hrel
   obtain ⟨nd, rfl⟩ := HW.out
   by_cases cz : 0 ≤ x
   ·
    have c3 : decide (0 ≤ x) = true := decide_eq_true cz
    obtain ⟨k, hk, hkl⟩ : ∃ k, gk = k + 1 ∧ k < xs.length := ⟨gk - 1, by have := HA.out; omega, by have := HA.out; omega⟩
    subst hk
    obtain ⟨y, hy⟩ : ∃ y, IntKind.i64.wrap (x - 1) = y := ⟨_, rfl⟩
    have E := Aside0.mk (show x = (k : Int) ∧ y = (k : Int) - 1 ∧ k < xs.length by have := X.out.2.2; have := HL.out; have := HA.out.1; refine ⟨by omega, ?_, hkl⟩; rw [← hy, i64_w]; unfold wrap64; omega)
    clear cz hkl
    have p1 : 0 ≤ x := by have := E.out; omega
    have q1 : x < (xs.length : Int) := by have := E.out; omega
    have q2 : x < (ys.length : Int) := by have := E.out; have := C.out; omega
    obtain ⟨ad, ea, hx1⟩ := Kd.at_int H1.out x p1 q1
    cases ea
    obtain ⟨ad2, ea2, hx2⟩ := Kd.at_int H2.out x p1 q2
    cases ea2
    replace p1 := eq_true p1
    replace q1 := eq_true q1
    replace q2 := eq_true q2
    have hdx : rd xs x = xs.getD k 0 := by unfold rd; rw [E.out.1]; rfl
    have hdy : rd ys x = ys.getD k 0 := by unfold rd; rw [E.out.1]; rfl
    have D := Aside0.mk (And.intro hdx hdy)
    clear hdx hdy
    rcases Int.lt_trichotomy (rd xs x) (rd ys x) with c4 | c4 | c4
    ·
     have c5 : decide (rd xs x < rd ys x) = true := decide_eq_true c4
     have hc : cmpN a b = -1 := by
      have := lex_lt X.out.1.1 Y.out.1.1 k C.out E.out.2.2 HA.out.2.2 (by rw [← D.out.1, ← D.out.2]; exact c4)
      rw [X.out.2.1, Y.out.2.1] at this
      unfold cmpN
      rw [if_pos this]
     clear c4
     go_wp2
     repeat (go_quiet (fail); try go_wp2)
     go_ret
     exact ⟨by rw [hc]; rfl, by ((try refine Aside0.mk ?_); (first | exact ⟨_, rfl⟩ | (simp only [World.drewN_drewN]; exact ⟨_, rfl⟩)))⟩
    ·
     have c5 : decide (rd xs x < rd ys x) = false := decide_eq_false (by omega)
     have c6 : decide (rd ys x < rd xs x) = false := decide_eq_false (by omega)
     have hd : xs.drop k = ys.drop k := drop_eq k C.out E.out.2.2 HA.out.2.2 (by rw [← D.out.1, ← D.out.2]; exact c4)
     have HD := Aside0.mk hd
     clear c4 hd
     go_wp2
     repeat (go_quiet (fail); try go_wp2)
     go_roundg k
     case measure => omega
     case rel => exact ⟨_, rfl, ⟨E.out.2.1, by have := E.out.2.2; omega, HD.out⟩, by ((try refine Aside0.mk ?_); (first | exact ⟨_, rfl⟩ | (simp only [World.drewN_drewN]; exact ⟨_, rfl⟩)))⟩
    ·
     have c5 : decide (rd xs x < rd ys x) = false := decide_eq_false (by omega)
     have c6 : decide (rd ys x < rd xs x) = true := decide_eq_true c4
     have hc : cmpN a b = 1 := by
      have := lex_lt Y.out.1.1 X.out.1.1 k C.out.symm (by have := C.out; have := E.out.2.2; omega) HA.out.2.2.symm (by rw [← D.out.1, ← D.out.2]; exact c4)
      rw [X.out.2.1, Y.out.2.1] at this
      unfold cmpN
      rw [if_neg (by omega), if_pos this]
     clear c4
     go_wp2
     repeat (go_quiet (fail); try go_wp2)
     go_ret
     exact ⟨by rw [hc]; rfl, by ((try refine Aside0.mk ?_); (first | exact ⟨_, rfl⟩ | (simp only [World.drewN_drewN]; exact ⟨_, rfl⟩)))⟩
   ·
    have c3 : decide (0 ≤ x) = false := decide_eq_false cz
    have hc : cmpN a b = 0 := by
     have h0 : gk = 0 := by have := HA.out; omega
     have := HA.out.2.2
     rw [h0] at this
     simp only [List.drop_zero] at this
     have h1 := X.out.2.1
     have h2 := Y.out.2.1
     rw [this] at h1
     unfold cmpN
     rw [if_neg (by omega), if_neg (by omega)]
    clear cz
    go_wp2
    go_ret
    exact ⟨by rw [hc]; rfl, _, rfl⟩
 ·
  have c1 : ((xs.length : Int) == (ys.length : Int)) = false := by rw [beq_eq_false_iff_ne]; omega
  have c2 : ((xs.length : Int) != (ys.length : Int)) = true := by rw [bne_iff_ne]; omega
  have hx := X.out.1
  have hy := Y.out.1
  by_cases d : xs.length < ys.length
  ·
   have d1 : decide (xs.length < ys.length) = true := decide_eq_true d
   have hc : cmpN a b = -1 := by
    have := nv_lt_of_tl hx.1 hy.1 (by rw [hx.2, hy.2]; exact d)
    rw [X.out.2.1, Y.out.2.1] at this
    unfold cmpN
    rw [if_pos this]
   clear c d hx hy
   go_enter Tryz.func68, Tryz.ntmps68
   go_wp2_with (first | (go_at_call 96; (with_reducible refine (nat_trim.run' xs0 v _ R1.out).mono ?_); (rintro e w1 ⟨A, rfl, rfl, hc⟩; rw [hxs] at hc ⊢; have H1 := Aside0.mk hc; clear hc)) | (go_at_call 96; (with_reducible refine (nat_trim.run' ys0 u _ R2.out).mono ?_); (rintro e w2 ⟨A2, rfl, rfl, hc⟩; rw [hys] at hc ⊢; have H2 := Aside0.mk hc; clear hc)))
   go_ret
   exact ⟨by rw [hc]; rfl, 0, rfl⟩
  ·
   have d1 : decide (xs.length < ys.length) = false := decide_eq_false d
   have hc : cmpN a b = 1 := by
    have := nv_lt_of_tl hy.1 hx.1 (by rw [hx.2, hy.2]; omega)
    rw [X.out.2.1, Y.out.2.1] at this
    unfold cmpN
    rw [if_neg (by omega), if_pos this]
   clear c d hx hy
   go_enter Tryz.func68, Tryz.ntmps68
   go_wp2_with (first | (go_at_call 96; (with_reducible refine (nat_trim.run' xs0 v _ R1.out).mono ?_); (rintro e w1 ⟨A, rfl, rfl, hc⟩; rw [hxs] at hc ⊢; have H1 := Aside0.mk hc; clear hc)) | (go_at_call 96; (with_reducible refine (nat_trim.run' ys0 u _ R2.out).mono ?_); (rintro e w2 ⟨A2, rfl, rfl, hc⟩; rw [hys] at hc ⊢; have H2 := Aside0.mk hc; clear hc)))
   go_ret
   exact ⟨by rw [hc]; rfl, 0, rfl⟩
end Go.Proofs.YtnmfmiemkcaocaaGreat.Hand
namespace Go.Proofs.YtnmfmiemkcaocaaGreat.Hand
open Go.RowKit Go.Proofs.YtnmfmiemkcaocaaGreatW.PrintWords Go.Proofs.YtnmfmiemkcaocaaGreatW.PrintLast Go.Proofs.YtnmfmiemkcaocaaGreatW.PrintMore
set_option linter.unusedVariables false
set_option linter.unusedSimpArgs false
def Blk (w : World) (ad : Addr) (xs : List Int) : Prop := ad.off = 0 ∧ ad.spot = none ∧ w.heap[ad.block]? = some (.cells (nums .u32 xs).toArray 52 (0, 0))
theorem add_block (ad : Addr) (n : Nat) : (ad.add n).block = ad.block := by unfold Addr.add; split <;> rfl
theorem add_off (ad : Addr) (n : Nat) : (ad.add n).off = ad.off + n := by unfold Addr.add; split <;> simp_all
theorem add_spot (ad : Addr) (n : Nat) (h : ad.spot = none) : (ad.add n).spot = none := by unfold Addr.add; split <;> simp_all
theorem addr_ext {x y : Addr} (h1 : x.block = y.block) (h2 : x.off = y.off) (h3 : x.spot = y.spot) : x = y := by
 cases x
 cases y
 simp only at h1 h2 h3
 rw [h1, h2, h3]
theorem add_add (ad : Addr) (m n : Nat) (h : ad.spot = none) : (ad.add m).add n = ad.add (m + n) := addr_ext (by rw [add_block, add_block, add_block]) (by rw [add_off, add_off, add_off, Nat.add_assoc]) (by rw [add_spot _ _ (add_spot _ _ h), add_spot _ _ h])
theorem nums_at (xs : List Int) (j : Nat) (h : j < xs.length) : (nums .u32 xs).toArray[j]? = some (.int .u32 (xs.getD j 0)) := by
 simp [nums, List.getD_eq_getElem?_getD, List.getElem?_eq_getElem h]
theorem Blk.cellN {w : World} {ad : Addr} {xs : List Int} (h : Blk w ad xs) (j : Nat) (hj : j < xs.length) : w.cell? (ad.add j) = some (.int .u32 (xs.getD j 0)) := by
 unfold World.cell?
 rw [add_block, h.2.2]
 simp only [add_spot ad j h.2.1, add_off, h.1, Nat.zero_add]
 exact nums_at xs j hj
theorem Blk.cell {w : World} {ad : Addr} {xs : List Int} (h : Blk w ad xs) (i : Int) (h0 : 0 ≤ i) (h1 : i < xs.length) : w.cell? (ad.add i.toNat) = some (.int .u32 (rd xs i)) := h.cellN i.toNat (by omega)
theorem Blk.frozen {w : World} {ad : Addr} {xs : List Int} (h : Blk w ad xs) (j : Nat) : w.frozen? (ad.add j) = false := by
 unfold World.frozen?
 rw [add_block, h.2.2]
 simp
theorem Blk.set {w : World} {ad : Addr} {xs : List Int} (h : Blk w ad xs) (j : Nat) (x : Int) : Blk (w.setCell (ad.add j) (.int .u32 x)) ad (xs.set j x) := by
 refine ⟨h.1, h.2.1, ?_⟩
 unfold World.setCell
 simp only [add_block, Array.getElem?_modify, if_true, h.2.2, Option.map_some, add_spot ad j h.2.1, add_off, h.1, Nat.zero_add]
 simp [nums, List.map_set]
theorem Blk.far {w : World} {ad p : Addr} {xs : List Int} (h : Blk w ad xs) (j : Nat) (v : Value) (hne : p.block ≠ ad.block) : Blk (w.setCell (p.add j) v) ad xs := by
 refine ⟨h.1, h.2.1, ?_⟩
 rw [Below.heap_setCell _ _ _ _ (by rw [add_block]; exact fun e => hne e.symm)]
 exact h.2.2
theorem Blk.lt {w : World} {ad : Addr} {xs : List Int} (h : Blk w ad xs) : ad.block < w.heap.size := (Array.getElem?_eq_some_iff.1 h.2.2).1
theorem Blk.below {w w1 : World} {ad : Addr} {xs : List Int} (h : Blk w ad xs) (hb : Below w.heap.size w w1) : Blk w1 ad xs := ⟨h.1, h.2.1, by rw [hb.block _ h.lt]; exact h.2.2⟩
theorem Blk.drewN {w : World} {ad : Addr} {xs : List Int} (h : Blk w ad xs) (n : Nat) : Blk (w.drewN n) ad xs := h
theorem Blk.C {w : World} {ad : Addr} {xs : List Int} (h : Blk w ad xs) (j n : Nat) (hn : j + n ≤ xs.length) (hm : xs.length ≤ 9223372036854775807) : Kd.C (Kd.int .u32) w (some (ad.add j)) ((xs.drop j).take n).length ((xs.drop j).take n) := by
 have hl : ((xs.drop j).take n).length = n := by rw [List.length_take, List.length_drop]; omega
 refine ⟨rfl, by omega, fun _ => ⟨_, rfl, fun i p hp => ⟨[.int .u32 p], rfl, rfl, fun k u hu => ?_⟩⟩⟩
 have hi : i < n := by
  have := (List.getElem?_eq_some_iff.1 hp).1
  omega
 have hk : k = 0 ∧ u = .int .u32 p := by
  cases k with
  | zero => simp at hu; exact ⟨rfl, hu.symm⟩
  | succ k => simp at hu
 obtain ⟨rfl, rfl⟩ := hk
 show w.cell? ((ad.add j).add (i * 1 + 0)) = _
 rw [add_add _ _ _ h.2.1, show j + (i * 1 + 0) = j + i by omega, h.cellN (j + i) (by omega)]
 rw [List.getElem?_take, if_pos hi, List.getElem?_drop] at hp
 rw [List.getD_eq_getElem?_getD, hp]
 rfl
theorem Blk.Cfull {w : World} {ad : Addr} {xs : List Int} (h : Blk w ad xs) (hm : xs.length ≤ 9223372036854775807) : Kd.C (Kd.int .u32) w (some ad) xs.length xs := by
 have := h.C 0 xs.length (by omega) hm
 simpa [Addr.add] using this
theorem made_zeros (m : Nat) : madeCells (Value.int .u32 0).cells (m * 1) = (nums .u32 (List.replicate m 0)).toArray := by
 apply Array.toList_inj.1
 rw [show (nums .u32 (List.replicate m 0)).toArray.toList = List.replicate m (Value.int .u32 0) by simp [nums]]
 apply List.eq_replicate_iff.2
 constructor
 ·
  simp [madeCells]
 ·
  intro b hb
  simp only [madeCells, Array.toList_map, List.mem_map] at hb
  obtain ⟨x, _, rfl⟩ := hb
  simp [Value.cells, Nat.mod_one]
theorem ev_make {ops : Array Oper} {Q : Exit → Act → World → Prop} {rest : List Oper} {o : Oper} {a : Act} {W : World} (hgd : o.guard = none) (x y : Operand) (ho : o.op = .makeSlice 30 x y) (n c : Int) (N C : Nat) (hx : a.eval x = .int .i64 n) (hy : a.eval y = .int .i64 c) (hN : n = (N : Int)) (hC : c = (C : Int)) (hc : N ≤ C) (hl : C ≤ 10000000000)
  (h : ∀ ad w1, Blk w1 ad (List.replicate C 0) → Below W.heap.size W w1 → W.heap.size ≤ ad.block → wpList Tryz.prog ops Q rest (a.put o.dst (.slice (some ad) N C)) w1) : wpList Tryz.prog ops Q (o :: rest) a W := by
 obtain ⟨i0, hi, hz, hs, hb⟩ := info_parts info52
 subst hN
 subst hC
 have hr := run_make (P := Tryz.prog) W 30 52 i0 (.int .u32 0) Tryz.underlying30 hi hz .i64 .i64 (N : Int) (C : Int) (by omega) (by omega) (by rw [hb]; omega) (by omega)
 simp only [Int.toNat_natCast] at hr
 refine wpList_plain hgd fun K hK => ?_
 unfold Oper.wp
 have he : (execOp a.eval o).run Tryz.prog W = .ok (.value (.slice (some ⟨W.heap.size, 0, none⟩) N C)) (W.alloc (.cells (madeCells (Value.int .u32 0).cells (C * i0.size)) 52)) := by
  simp [execOp, ho, hx, hy, hr]
 rw [he]
 refine hK _ _ (h ⟨W.heap.size, 0, none⟩ _ ⟨rfl, rfl, ?_⟩ (below_alloc (Below.refl _ _) _) (Nat.le_refl _))
 rw [hs, made_zeros]
 exact heap_alloc_new W _
end Go.Proofs.YtnmfmiemkcaocaaGreat.Hand
namespace Go.Proofs.YtnmfmiemkcaocaaGreat.Hand
open Go.RowKit Go.Proofs.YtnmfmiemkcaocaaGreatW.PrintWords Go.Proofs.YtnmfmiemkcaocaaGreatW.PrintLast Go.Proofs.YtnmfmiemkcaocaaGreatW.PrintMore
set_option linter.unusedVariables false
set_option linter.unusedSimpArgs false
theorem below_setA {B : Nat} {w W : World} {ad : Addr} (h : Below B w W) (hb : B ≤ ad.block) (j : Nat) (v : Value) : Below B w (W.setCell (ad.add j) v) := by
 cases he : ad.add j with
 | mk g o s =>
  have e1 := add_block ad j
  rw [he] at e1
  simp only at e1
  refine ⟨h.os, h.tape, h.output, by simpa [World.setCell] using h.size, fun k hk => ?_⟩
  rw [Below.heap_setCell _ _ _ _ (by simp only; omega)]
  exact h.block k hk
theorem take_set_self (zs : List Int) (i : Nat) (v : Int) (h : i < zs.length) : nv ((zs.set i v).take (i + 1)) = nv (zs.take i) + pw i * v.toNat := by
 rw [nv_take_succ _ _ (by rw [List.length_set]; exact h)]
 rw [List.take_set_of_le (Nat.le_refl _)]
 congr 2
 simp [List.getD_eq_getElem?_getD, h]
theorem shl_step (xs zs : List Int) (i n : Nat) (C : Nat) (hg : Rg xs) (hi : i < xs.length) (hz : i < zs.length) (I : nv (xs.take i) * 2 ^ n = nv (zs.take i) + pw i * C) (hC : C < 2 ^ n) (s : Nat) (hs : s = C + (xs.getD i 0).toNat * 2 ^ n) :
  nv (xs.take (i + 1)) * 2 ^ n = nv ((zs.set i ((s % 4294967296 : Nat) : Int)).take (i + 1)) + pw (i + 1) * (s / 4294967296) ∧ s / 4294967296 < 2 ^ n ∧ s < 4294967296 * 2 ^ n := by
 have hx := hg.get i
 have hs2 : s < 4294967296 * 2 ^ n := by
  have h1 : (xs.getD i 0).toNat + 1 ≤ 4294967296 := by omega
  have h2 := Nat.mul_le_mul_right (2 ^ n) h1
  rw [Nat.add_mul, Nat.one_mul] at h2
  omega
 refine ⟨?_, by rw [Nat.div_lt_iff_lt_mul (by omega), Nat.mul_comm]; exact hs2, hs2⟩
 rw [take_set_self _ _ _ hz, nv_take_succ _ _ hi, pw_succ, Nat.add_mul, I]
 have hd := Nat.div_add_mod s 4294967296
 simp only [Int.toNat_natCast]
 generalize s / 4294967296 = q at *
 generalize s % 4294967296 = r at *
 have e : pw i * (xs.getD i 0).toNat * 2 ^ n + pw i * C = pw i * s := by rw [hs]; grind
 rw [← hd] at e
 grind
theorem u64_small (x : Int) (h0 : 0 ≤ x) (h1 : x < 18446744073709551616) : IntKind.u64.wrap x = x := by
 simp only [IntKind.wrap, IntKind.bits, IntKind.signed]
 simp
 omega
theorem and_low (x : Int) (h0 : 0 ≤ x) (h1 : x < 18446744073709551616) : Go.bits .and .u64 x 4294967295 = x % 4294967296 :=
 bits_mask .u64 64 (by decide) (fun n a b => u64_small n a (by simpa using b)) 32 (by decide) x h0 (by simpa using h1)
theorem or_low (n : Nat) (hn : n < 32) (C x : Nat) (hC : C < 2 ^ n) (hx : x < 4294967296) : IntKind.u64.wrap ((x : Int) * 2 ^ n) = ((x * 2 ^ n : Nat) : Int) ∧ Go.bits .or .u64 (C : Int) ((x * 2 ^ n : Nat) : Int) = ((C + x * 2 ^ n : Nat) : Int) := by
 have hp : 2 ^ n ≤ 2147483648 := Nat.le_trans (Nat.pow_le_pow_right (by omega) (show n ≤ 31 by omega)) (by decide)
 have hb : x * 2 ^ n ≤ 4294967295 * 2147483648 := Nat.mul_le_mul (by omega) hp
 have e : ((x : Int) * 2 ^ n) = ((x * 2 ^ n : Nat) : Int) := by push_cast; rfl
 refine ⟨by rw [e]; exact u64_small _ (by omega) (by omega), ?_⟩
 rw [(bits_nat .u64 64 (by decide) (fun n a b => u64_small n a (by simpa using b)) C (x * 2 ^ n) (by omega) (by omega)).2]
 congr 1
 rw [Nat.or_comm, Nat.mul_comm, ← Nat.two_pow_add_eq_or_of_lt hC, Nat.add_comm]
theorem nat_shiftUp.run (xs : List Int) (v : Value) (n : Nat) (w : World) (hv : Rd w v xs) (hg : Rg xs) (hn : n < 32) (hl : xs.length ≤ 1000000000) :
  Calls Tryz.prog 113 #[v, .int .u64 (n : Int)] w fun e w' => ∃ ad zs, e = .returned (.slice (some ad) (xs.length + 1) (xs.length + 1)) ∧ Blk w' ad zs ∧ Rg zs ∧ zs.length = xs.length + 1 ∧ nv zs = nv xs * 2 ^ n ∧ Below w.heap.size w w' ∧ w.heap.size ≤ ad.block := by
 obtain ⟨A, c, rfl, hc, hr⟩ := hv
 have R := Aside0.mk hr
 have X := Aside0.mk (And.intro hg (And.intro hn hl))
 clear hr hg hn
 obtain ⟨N1, hN1⟩ : ∃ N1, N1 = xs.length + 1 := ⟨_, rfl⟩
 have NN := Aside0.mk hN1
 obtain ⟨m, hm⟩ : ∃ m, IntKind.i64.wrap ((xs.length : Int) + 1) = m := ⟨_, rfl⟩
 have M := Aside0.mk (show m = (xs.length : Int) + 1 by rw [← hm, i64_w]; unfold wrap64; omega)
 clear hl hN1
 go_enter Tryz.func113, Tryz.ntmps113
 go_wp2_with (first | ((with_reducible refine gate_dst (N := 12) rfl ?_); refine ev_make rfl _ _ rfl m m N1 N1 rfl rfl (by have := M.out; have := NN.out; omega) (by have := M.out; have := NN.out; omega) (Nat.le_refl _) (by have := NN.out; have := X.out.2.2; omega) ?_; intro ad w1 hb1 hb2 hb3; have B := Aside0.mk hb1; have HB := Aside0.mk hb2; have HA := Aside0.mk hb3; clear hb1 hb2 hb3))
 go_loopg [6, 15] xs.length (fun kq v6 v15 w' => ∃ (C : Int) (i : Int) (zs : List Int), v6 = .int .u64 C ∧ v15 = .int .i64 i ∧ Aside0 (i + kq = (xs.length : Int) ∧ kq ≤ xs.length ∧ 0 ≤ C) ∧ Aside0 (nv (xs.take i.toNat) * 2 ^ n = nv (zs.take i.toNat) + pw i.toNat * C.toNat ∧ C.toNat < 2 ^ n ∧ Rg zs ∧ zs.length = N1) ∧ Aside0 (Blk w' ad zs) ∧ Aside0 (Below w.heap.size w w'))
 case atStart =>
  refine ⟨0, 0, _, rfl, rfl, ⟨by omega, by omega, by omega⟩, ⟨by simp [nv], Nat.pow_pos (by omega), Rg.zeros _, by rw [List.length_replicate]⟩, ⟨B.out⟩, ⟨HB.out⟩⟩
 case round =>
  obtain ⟨C, i, zs, rfl, rfl, HI, HN, HBk, HBl⟩ := hrel
  by_cases ci : i < (xs.length : Int)
  ·
   have c1 : decide (i < (xs.length : Int)) = true := decide_eq_true ci
   have p1 : 0 ≤ i := by have := HI.out; omega
   obtain ⟨k, hk⟩ : ∃ k, gk = k + 1 := ⟨gk - 1, by have := HI.out; omega⟩
   subst hk
   obtain ⟨ad0, ea, hx⟩ := Kd.at_int R.out i p1 ci
   cases ea
   replace hx := (HBl.out.cell (World.block_lt_of_cell? w _ hx)).trans hx
   have hcl := HBk.out.cell i p1 (by have := HN.out.2.2.2; have := NN.out; omega)
   have hfz := HBk.out.frozen i.toNat
   obtain ⟨x, hxe⟩ : ∃ x, rd xs i = x := ⟨_, rfl⟩
   rw [hxe] at hx
   have hx0 : 0 ≤ x ∧ x < 4294967296 := by rw [← hxe]; exact X.out.1.rd i
   have hw1 : IntKind.u64.wrap x = x := u64_small x hx0.1 (by omega)
   have hmin : min n 64 = n := by have := X.out.2.1; omega
   obtain ⟨y, hy⟩ : ∃ y, IntKind.u64.wrap (x * 2 ^ n) = y := ⟨_, rfl⟩
   obtain ⟨s, hs⟩ : ∃ s, Go.bits .or .u64 C y = s := ⟨_, rfl⟩
   obtain ⟨r, hr⟩ : ∃ r, Go.bits .and .u64 s 4294967295 = r := ⟨_, rfl⟩
   obtain ⟨i1, hi1⟩ : ∃ i1, IntKind.i64.wrap (i + 1) = i1 := ⟨_, rfl⟩
   have P1 := Aside0.mk p1
   have Q1 := Aside0.mk ci
   clear ci hx0
   replace p1 := eq_true p1
   have q1 := eq_true Q1.out
   have q2 : (i < (N1 : Int)) = True := eq_true (by have := Q1.out; have := NN.out; omega)
   go_wp2
   have hi1' : i1 = i + 1 := by have := Q1.out; have := P1.out; have := X.out.2.2; rw [← hi1, i64_w]; unfold wrap64; omega
   obtain ⟨hI, hC, hzr, hzl⟩ := HN.out
   have hxg : x = xs.getD i.toNat 0 := hxe.symm
   have hcp := X.out.1.get i.toNat
   rw [← hxg] at hcp
   have hn := X.out.2.1
   have hp32 : 2 ^ n ≤ 2147483648 := Nat.le_trans (Nat.pow_le_pow_right (by omega) (show n ≤ 31 by omega)) (by decide)
   have hpc : ((2 ^ n : Nat) : Int) = (2 : Int) ^ n := by push_cast; rfl
   have hst := shl_step xs zs i.toNat n C.toNat X.out.1 (by have := Q1.out; have := P1.out; omega) (by have := Q1.out; have := P1.out; have := NN.out; omega) hI hC _ rfl
   have ho := or_low n hn C.toNat x.toNat hC (by omega)
   have ec : (C.toNat : Int) = C := Int.toNat_of_nonneg HI.out.2.2
   have ex : (x.toNat : Int) = x := Int.toNat_of_nonneg hcp.1
   rw [ec, ex] at ho
   rw [ho.1] at hy
   subst hy
   rw [ho.2] at hs
   rw [← hxg] at hst
   obtain ⟨S, hS⟩ : ∃ S, S = C.toNat + x.toNat * 2 ^ n := ⟨_, rfl⟩
   rw [← hS] at hst hs
   subst hs
   have hr2 : r = ((S % 4294967296 : Nat) : Int) := by rw [← hr, and_low _ (by omega) (by omega)]; omega
   have hr3 : r % 4294967296 = ((S % 4294967296 : Nat) : Int) := by omega
   rw [hr3]
   have hd : (S : Int) / 4294967296 = ((S / 4294967296 : Nat) : Int) := by omega
   rw [hd]
   go_roundg k
   case measure => omega
   case rel =>
    have ei : i1.toNat = i.toNat + 1 := by have := P1.out; omega
    refine ⟨_, i1, _, rfl, rfl, ⟨by have := HI.out; omega, by have := HI.out; omega, by omega⟩, ⟨?_, ?_, hzr.set _ (by omega) (by omega), by rw [List.length_set]; exact hzl⟩, ⟨HBk.out.set _ _⟩, ⟨?_⟩⟩
    ·
     rw [ei]; exact hst.1
    ·
     exact hst.2.1
    ·
     exact below_setA HBl.out HA.out _ _
  ·
   have c1 : decide (i < (xs.length : Int)) = false := decide_eq_false ci
   obtain ⟨hI, hC, hzr, hzl⟩ := HN.out
   have ei : i = (xs.length : Int) := by have := HI.out; omega
   subst ei
   have hcl := HBk.out.cellN xs.length (by have := NN.out; omega)
   have hfz := HBk.out.frozen xs.length
   have q1 : ((xs.length : Int) < (N1 : Int)) = True := eq_true (by have := NN.out; omega)
   have q2 : (xs.length < N1) = True := eq_true (by have := NN.out; omega)
   have E := Aside0.mk (And.intro hI (And.intro hC (And.intro hzr hzl)))
   clear hI hC hzr hzl ci
   go_wp2
   go_ret
   obtain ⟨hI, hC, hzr, hzl⟩ := E.out
   have hn := X.out.2.1
   have hp32 : 2 ^ n ≤ 2147483648 := Nat.le_trans (Nat.pow_le_pow_right (by omega) (show n ≤ 31 by omega)) (by decide)
   have ec : C % 4294967296 = C := by have := HI.out.2.2; omega
   refine ⟨ad, zs.set xs.length C, by rw [NN.out]; rfl, by rw [ec]; exact HBk.out.set _ _, hzr.set _ (by have := HI.out.2.2; omega) (by have := HI.out.2.2; omega), by rw [List.length_set, hzl, NN.out], ?_, below_setA HBl.out HA.out _ _, HA.out⟩
   have h1 := take_set_self zs xs.length C (by have := NN.out; omega)
   rw [List.take_of_length_le (by rw [List.length_set, hzl, NN.out]; exact Nat.le_refl _)] at h1
   rw [h1]
   simp only [Int.toNat_natCast, List.take_length] at hI
   exact hI.symm
end Go.Proofs.YtnmfmiemkcaocaaGreat.Hand
namespace Go.Proofs.YtnmfmiemkcaocaaGreat.Hand
open Go.RowKit Go.Proofs.YtnmfmiemkcaocaaGreatW.PrintWords Go.Proofs.YtnmfmiemkcaocaaGreatW.PrintLast Go.Proofs.YtnmfmiemkcaocaaGreatW.PrintMore
set_option linter.unusedVariables false
set_option linter.unusedSimpArgs false
theorem NC.of_nil {w : World} : NC w (.slice none 0 0) 0 0 := ⟨[], ⟨none, 0, rfl, Nat.le_refl _, ⟨rfl, by simp, fun h => absurd h (by simp)⟩⟩, Can.nil, rfl, Nat.le_refl _⟩
theorem nat_trim.own (zs : List Int) (ad : Addr) (n L : Nat) (w : World) (h : Blk w ad zs) (hg : Rg zs) (hn : zs.length = n) (hl : n ≤ 9223372036854775807) (hL : nv zs < pw L) :
  Calls Tryz.prog 96 #[.slice (some ad) n n] w fun e w' => ∃ r, e = .returned r ∧ w' = w ∧ NC w r (nv zs) L := by
 subst hn
 have hc := h.Cfull hl
 refine (nat_trim.run zs (some ad) zs.length w hc (Nat.le_refl _)).mono fun e w' he => ?_
 obtain ⟨rfl, rfl⟩ := he
 exact ⟨_, rfl, rfl, _, Rd.trim hc, Can.trim hg, nv_trim zs, by rw [List.length_take]; have := tl_le_of hg hL; omega⟩
theorem mul_step (zs ys : List Int) (i k p C Z0 : Nat) (hk : k < ys.length) (hz : i + k < zs.length) (I : nv zs + pw (i + k) * C = Z0 + pw i * p * nv (ys.take k)) (s : Nat) (hs : s = C + p * (ys.getD k 0).toNat + (zs.getD (i + k) 0).toNat) :
  nv (zs.set (i + k) ((s % 4294967296 : Nat) : Int)) + pw (i + (k + 1)) * (s / 4294967296) = Z0 + pw i * p * nv (ys.take (k + 1)) := by
 have h1 := nv_set zs (i + k) ((s % 4294967296 : Nat) : Int) hz
 rw [nv_take_succ _ _ hk, ← Nat.add_assoc, pw_succ]
 have hd := Nat.div_add_mod s 4294967296
 simp only [Int.toNat_natCast] at h1
 generalize s / 4294967296 = q at *
 generalize s % 4294967296 = r at *
 generalize nv (zs.set (i + k) (r : Int)) = V at *
 have e : pw (i + k) * s = pw (i + k) * C + pw (i + k) * (p * (ys.getD k 0).toNat) + pw (i + k) * (zs.getD (i + k) 0).toNat := by rw [hs]; grind
 rw [← hd] at e
 rw [pw_add] at *
 grind
theorem mul_end (zs xs ys : List Int) (i C : Nat) (hi : i < xs.length) (hz : i + ys.length < zs.length) (h0 : zs.getD (i + ys.length) 0 = 0) (I : nv zs + pw (i + ys.length) * C = nv (xs.take i) * nv ys + pw i * (xs.getD i 0).toNat * nv ys) :
  nv (zs.set (i + ys.length) (C : Int)) = nv (xs.take (i + 1)) * nv ys := by
 have h1 := nv_set zs (i + ys.length) (C : Int) hz
 rw [h0] at h1
 simp only [Int.toNat_natCast, Int.toNat_zero, Nat.mul_zero, Nat.add_zero] at h1
 rw [nv_take_succ _ _ hi, h1, I]
 grind
theorem nat_Mul.run (v u : Value) (a b L1 L2 : Nat) (w : World) (hv : NA w v a L1) (hu : NA w u b L2) (hL : L1 + L2 ≤ 1000000000) :
  Calls Tryz.prog 70 #[v, u] w fun e w' => ∃ r, e = .returned r ∧ NC w' r (a * b) (L1 + L2) ∧ Below w.heap.size w w' := by
 obtain ⟨xs0, hr1, hg1, hn1, hl1⟩ := hv
 obtain ⟨ys0, hr2, hg2, hn2, hl2⟩ := hu
 have hlen1 : (xs0.take (tl xs0)).length = tl xs0 := by rw [List.length_take]; have := tl_le xs0; omega
 have hlen2 : (ys0.take (tl ys0)).length = tl ys0 := by rw [List.length_take]; have := tl_le ys0; omega
 obtain ⟨xs, hxs⟩ : ∃ xs, xs0.take (tl xs0) = xs := ⟨_, rfl⟩
 obtain ⟨ys, hys⟩ : ∃ ys, ys0.take (tl ys0) = ys := ⟨_, rfl⟩
 have X := Aside0.mk (show Can xs ∧ nv xs = a ∧ xs.length ≤ L1 by rw [← hxs]; exact ⟨Can.trim hg1, by rw [nv_trim, hn1], by have := tl_le xs0; omega⟩)
 have Y := Aside0.mk (show Can ys ∧ nv ys = b ∧ ys.length ≤ L2 by rw [← hys]; exact ⟨Can.trim hg2, by rw [nv_trim, hn2], by have := tl_le ys0; omega⟩)
 have R1 := Aside0.mk hr1
 have R2 := Aside0.mk hr2
 have HL := Aside0.mk hL
 clear hr1 hr2 hg1 hg2 hn1 hn2 hl1 hl2 hlen1 hlen2 hL
 by_cases cx : xs.length = 0
 ·
  have c1 : ((xs.length : Int) == 0) = true := by rw [cx]; rfl
  have ha : a = 0 := by rw [← X.out.2.1]; exact X.out.1.zero.1 cx
  clear cx
  go_enter Tryz.func70, Tryz.ntmps70
  go_wp2_with (first | (go_at_call 96; (with_reducible refine (nat_trim.run' xs0 v _ R1.out).mono ?_); (rintro e w1 ⟨A, rfl, rfl, hc⟩; rw [hxs] at hc ⊢; have H1 := Aside0.mk hc; clear hc)) | (go_at_call 96; (with_reducible refine (nat_trim.run' ys0 u _ R2.out).mono ?_); (rintro e w2 ⟨A2, rfl, rfl, hc⟩; rw [hys] at hc ⊢; have H2 := Aside0.mk hc; clear hc)))
  go_ret
  exact ⟨_, rfl, by rw [ha, Nat.zero_mul]; exact NC.of_nil.mono (by omega), Below.refl _ _⟩
 ·
  have c1 : ((xs.length : Int) == 0) = false := by rw [beq_eq_false_iff_ne]; omega
  by_cases cy : ys.length = 0
  ·
   have c2 : ((ys.length : Int) == 0) = true := by rw [cy]; rfl
   have hb : b = 0 := by rw [← Y.out.2.1]; exact Y.out.1.zero.1 cy
   clear cx cy
   go_enter Tryz.func70, Tryz.ntmps70
   go_wp2_with (first | (go_at_call 96; (with_reducible refine (nat_trim.run' xs0 v _ R1.out).mono ?_); (rintro e w1 ⟨A, rfl, rfl, hc⟩; rw [hxs] at hc ⊢; have H1 := Aside0.mk hc; clear hc)) | (go_at_call 96; (with_reducible refine (nat_trim.run' ys0 u _ R2.out).mono ?_); (rintro e w2 ⟨A2, rfl, rfl, hc⟩; rw [hys] at hc ⊢; have H2 := Aside0.mk hc; clear hc)))
   go_ret
   exact ⟨_, rfl, by rw [hb, Nat.mul_zero]; exact NC.of_nil.mono (by omega), Below.refl _ _⟩
  ·
   have c2 : ((ys.length : Int) == 0) = false := by rw [beq_eq_false_iff_ne]; omega
   obtain ⟨N1, hN1⟩ : ∃ N1, N1 = xs.length + ys.length := ⟨_, rfl⟩
   obtain ⟨m, hm⟩ : ∃ m, IntKind.i64.wrap ((xs.length : Int) + (ys.length : Int)) = m := ⟨_, rfl⟩
   have M := Aside0.mk (show m = (N1 : Int) by have := X.out.2.2; have := Y.out.2.2; have := HL.out; rw [← hm, i64_w]; unfold wrap64; omega)
   have NN := Aside0.mk (show N1 = xs.length + ys.length ∧ N1 ≤ 1000000000 by have := X.out.2.2; have := Y.out.2.2; have := HL.out; omega)
   clear cx cy hN1
   go_enter Tryz.func70, Tryz.ntmps70
   go_wp2_with (first | (go_at_call 96; (with_reducible refine (nat_trim.run' xs0 v _ R1.out).mono ?_); (rintro e w1 ⟨A, rfl, rfl, hc⟩; rw [hxs] at hc ⊢; have H1 := Aside0.mk hc; clear hc)) | (go_at_call 96; (with_reducible refine (nat_trim.run' ys0 u _ R2.out).mono ?_); (rintro e w2 ⟨A2, rfl, rfl, hc⟩; rw [hys] at hc ⊢; have H2 := Aside0.mk hc; clear hc)) | ((with_reducible refine gate_dst (N := 30) rfl ?_); refine ev_make rfl _ _ rfl m m N1 N1 rfl rfl M.out M.out (Nat.le_refl _) (by have := NN.out; omega) ?_; intro ad w3 hb1 hb2 hb3; have B := Aside0.mk hb1; have HB := Aside0.mk hb2; have HA := Aside0.mk hb3; clear hb1 hb2 hb3))
   go_loopg [33] xs.length (fun kq v33 w' => ∃ (i : Int) (zs : List Int), v33 = .int .i64 i ∧ Aside0 (i + kq = (xs.length : Int) ∧ kq ≤ xs.length) ∧ Aside0 (nv zs = nv (xs.take i.toNat) * nv ys ∧ (∀ j, i.toNat + ys.length ≤ j → zs.getD j 0 = 0) ∧ Rg zs ∧ zs.length = N1) ∧ Aside0 (Blk w' ad zs) ∧ Aside0 (Below w2.heap.size w2 w'))
   case atStart =>
    refine ⟨0, _, rfl, ⟨by omega, by omega⟩, ⟨by simp [nv, nv_zeros], fun j hj => ?_, Rg.zeros _, by rw [List.length_replicate]⟩, ⟨B.out⟩, ⟨HB.out⟩⟩
    rw [List.getD_eq_getElem?_getD]
    rcases Nat.lt_or_ge j N1 with h | h
    ·
     rw [List.getElem?_replicate, if_pos h]; rfl
    ·
     rw [List.getElem?_eq_none (by rw [List.length_replicate]; exact h)]; rfl
   case round =>
    obtain ⟨i, zs0, rfl, HI, HN, HBk0, HBl0⟩ := hrel
    by_cases ci : i < (xs.length : Int)
    ·
     have d1 : decide (i < (xs.length : Int)) = true := decide_eq_true ci
     have p1 : 0 ≤ i := by have := HI.out; omega
     obtain ⟨g1, hk⟩ : ∃ g1, gk = g1 + 1 := ⟨gk - 1, by have := HI.out; omega⟩
     subst hk
     obtain ⟨ad1, ea, hx⟩ := Kd.at_int H1.out i p1 ci
     cases ea
     replace hx := (HBl0.out.cell (World.block_lt_of_cell? w2 _ hx)).trans hx
     obtain ⟨p, hpe⟩ : ∃ p, rd xs i = p := ⟨_, rfl⟩
     rw [hpe] at hx
     have hp0 : 0 ≤ p ∧ p < 4294967296 := by rw [← hpe]; exact X.out.1.1.rd i
     have hw1 : IntKind.u64.wrap p = p := u64_small p hp0.1 (by omega)
     have P := Aside0.mk (show 0 ≤ i ∧ i < (xs.length : Int) ∧ 0 ≤ p ∧ p < 4294967296 ∧ p = xs.getD i.toNat 0 from ⟨p1, ci, hp0.1, hp0.2, hpe.symm⟩)
     clear hp0 hpe ci
     have q1 := eq_true P.out.2.1
     replace p1 := eq_true p1
     go_wp2
     go_loopg [10, 40] ys.length (fun kq v10 v40 w' => ∃ (C k : Int) (zs : List Int), v10 = .int .u64 C ∧ v40 = .int .i64 k ∧ Aside0 (k + kq = (ys.length : Int) ∧ kq ≤ ys.length ∧ 0 ≤ C ∧ C < 4294967296) ∧ Aside0 (nv zs + pw (i.toNat + k.toNat) * C.toNat = nv (xs.take i.toNat) * nv ys + pw i.toNat * p.toNat * nv (ys.take k.toNat) ∧ (∀ j, i.toNat + ys.length ≤ j → zs.getD j 0 = 0) ∧ Rg zs ∧ zs.length = N1) ∧ Aside0 (Blk w' ad zs) ∧ Aside0 (Below w2.heap.size w2 w'))
     case atStart =>
      refine ⟨0, 0, zs0, rfl, rfl, ⟨by omega, by omega, by omega, by omega⟩, ⟨by simp [nv, HN.out.1], HN.out.2⟩, ⟨HBk0.out⟩, ⟨HBl0.out⟩⟩
     case round =>
      obtain ⟨C, k, zs, rfl, rfl, HK, HZ, HBk, HBl⟩ := hrel
      by_cases ck : k < (ys.length : Int)
      ·
       have d2 : decide (k < (ys.length : Int)) = true := decide_eq_true ck
       have p2 : 0 ≤ k := by have := HK.out; omega
       obtain ⟨g2, hk2⟩ : ∃ g2, gk = g2 + 1 := ⟨gk - 1, by have := HK.out; omega⟩
       subst hk2
       obtain ⟨ad2, ea2, hy⟩ := Kd.at_int H2.out k p2 ck
       cases ea2
       replace hy := (HBl.out.cell (World.block_lt_of_cell? w2 _ hy)).trans hy
       obtain ⟨q, hqe⟩ : ∃ q, rd ys k = q := ⟨_, rfl⟩
       rw [hqe] at hy
       have hq0 : 0 ≤ q ∧ q < 4294967296 := by rw [← hqe]; exact Y.out.1.1.rd k
       have hw2 : IntKind.u64.wrap q = q := u64_small q hq0.1 (by omega)
       obtain ⟨ik, hik⟩ : ∃ ik, IntKind.i64.wrap (i + k) = ik := ⟨_, rfl⟩
       have eik : ik = i + k := by have := P.out; have := NN.out; rw [← hik, i64_w]; unfold wrap64; omega
       have hcl := HBk.out.cell ik (by have := P.out; omega) (by have := P.out; have := NN.out; have := HZ.out.2.2.2; omega)
       have hfz := HBk.out.frozen ik.toNat
       obtain ⟨z, hze⟩ : ∃ z, rd zs ik = z := ⟨_, rfl⟩
       rw [hze] at hcl
       have hz0 : 0 ≤ z ∧ z < 4294967296 := by rw [← hze]; exact HZ.out.2.2.1.rd ik
       have hw3 : IntKind.u64.wrap z = z := u64_small z hz0.1 (by omega)
       obtain ⟨pq, hpq⟩ : ∃ pq, IntKind.u64.wrap (p * q) = pq := ⟨_, rfl⟩
       obtain ⟨t, ht⟩ : ∃ t, IntKind.u64.wrap (pq + z) = t := ⟨_, rfl⟩
       obtain ⟨s, hs⟩ : ∃ s, IntKind.u64.wrap (C + t) = s := ⟨_, rfl⟩
       obtain ⟨r, hr⟩ : ∃ r, Go.bits .and .u64 s 4294967295 = r := ⟨_, rfl⟩
       obtain ⟨k1, hk1⟩ : ∃ k1, IntKind.i64.wrap (k + 1) = k1 := ⟨_, rfl⟩
       have K := Aside0.mk (show 0 ≤ k ∧ k < (ys.length : Int) ∧ 0 ≤ q ∧ q < 4294967296 ∧ q = ys.getD k.toNat 0 ∧ 0 ≤ z ∧ z < 4294967296 ∧ z = zs.getD (i.toNat + k.toNat) 0 ∧ ik = i + k from ⟨p2, ck, hq0.1, hq0.2, hqe.symm, hz0.1, hz0.2, by rw [← hze, eik]; unfold rd; rw [show (i + k).toNat = i.toNat + k.toNat by have := P.out; omega], eik⟩)
       clear hq0 hqe hz0 hze eik ck
       have q2 := eq_true K.out.2.1
       replace p2 := eq_true p2
       have q3 : (ik < (N1 : Int)) = True := eq_true (by have := K.out; have := P.out; have := NN.out; omega)
       have q4 : (0 ≤ ik) = True := eq_true (by have := K.out; have := P.out; omega)
       go_wp2
       obtain ⟨k0, ck, hq0, hq1, hqe, hz0, hz1, hze, eik⟩ := K.out
       obtain ⟨i0, ci, hp0, hp1, hpe⟩ := P.out
       obtain ⟨hI, hzz, hzr, hzl⟩ := HZ.out
       obtain ⟨hk0, hk1', hC0, hC1⟩ := HK.out
       have hNN := NN.out
       have epn : p * q = ((p.toNat * q.toNat : Nat) : Int) := by rw [Int.natCast_mul, Int.toNat_of_nonneg hp0, Int.toNat_of_nonneg hq0]
       have hb : p.toNat * q.toNat ≤ 4294967295 * 4294967295 := Nat.mul_le_mul (by omega) (by omega)
       have epq : pq = ((p.toNat * q.toNat : Nat) : Int) := by rw [← hpq, epn]; exact u64_small _ (by omega) (by omega)
       have et : t = pq + z := by rw [← ht]; exact u64_small _ (by omega) (by omega)
       have es : s = C + t := by rw [← hs]; exact u64_small _ (by omega) (by omega)
       obtain ⟨S, hS⟩ : ∃ S, S = C.toNat + p.toNat * q.toNat + z.toNat := ⟨_, rfl⟩
       have esS : s = (S : Int) := by omega
       have hr2 : r % 4294967296 = ((S % 4294967296 : Nat) : Int) := by rw [← hr, and_low _ (by omega) (by omega)]; omega
       have hd : s / 4294967296 = ((S / 4294967296 : Nat) : Int) := by omega
       have eik2 : ik.toNat = i.toNat + k.toNat := by omega
       have ek1 : k1 = k + 1 := by rw [← hk1, i64_w]; unfold wrap64; omega
       have ek2 : k1.toNat = k.toNat + 1 := by omega
       have hst := mul_step zs ys i.toNat k.toNat p.toNat C.toNat _ (by omega) (by omega) hI S (by rw [← hqe, ← hze]; exact hS)
       rw [hr2, hd, eik2]
       go_roundg g2
       case measure => omega
       case rel =>
        refine ⟨_, k1, _, rfl, rfl, ⟨by omega, by omega, by omega, by omega⟩, ⟨?_, fun j hj => ?_, hzr.set _ (by omega) (by omega), by rw [List.length_set]; exact hzl⟩, ⟨HBk.out.set _ _⟩, ⟨below_setA HBl.out HA.out _ _⟩⟩
        ·
         rw [ek2]
         exact hst
        ·
         rw [List.getD_eq_getElem?_getD, List.getElem?_set_ne (by omega), ← List.getD_eq_getElem?_getD]
         exact hzz j hj
      ·
       have d2 : decide (k < (ys.length : Int)) = false := decide_eq_false ck
       have ek : k = (ys.length : Int) := by have := HK.out; omega
       obtain ⟨il, hil⟩ : ∃ il, IntKind.i64.wrap (i + (ys.length : Int)) = il := ⟨_, rfl⟩
       have eil : il = i + (ys.length : Int) := by have := P.out; have := NN.out; rw [← hil, i64_w]; unfold wrap64; omega
       have hcl := HBk.out.cell il (by have := P.out; omega) (by have := P.out; have := NN.out; have := HZ.out.2.2.2; omega)
       have hfz := HBk.out.frozen il.toNat
       obtain ⟨i1, hi1⟩ : ∃ i1, IntKind.i64.wrap (i + 1) = i1 := ⟨_, rfl⟩
       have K := Aside0.mk (And.intro ek eil)
       have q3 : (il < (N1 : Int)) = True := eq_true (by have := P.out; have := NN.out; omega)
       have q4 : (0 ≤ il) = True := eq_true (by have := P.out; omega)
       clear ck ek eil
       go_wp2
       obtain ⟨ek, eil⟩ := K.out
       obtain ⟨i0, ci, hp0, hp1, hpe⟩ := P.out
       obtain ⟨hI, hzz, hzr, hzl⟩ := HZ.out
       obtain ⟨hk0, hk1', hC0, hC1⟩ := HK.out
       have hNN := NN.out
       have e1 : C % 4294967296 = ((C.toNat : Nat) : Int) := by omega
       have e2 : il.toNat = i.toNat + ys.length := by omega
       have e3 : i1 = i + 1 := by rw [← hi1, i64_w]; unfold wrap64; omega
       have e4 : i1.toNat = i.toNat + 1 := by omega
       rw [e1, e2]
       rw [ek] at hI
       simp only [Int.toNat_natCast, List.take_length] at hI
       rw [hpe] at hI
       have hst := mul_end zs xs ys i.toNat C.toNat (by omega) (by omega) (hzz _ (Nat.le_refl _)) hI
       go_roundg g1
       case measure => omega
       case rel =>
        refine ⟨i1, _, rfl, ⟨by have := HI.out; omega, by have := HI.out; omega⟩, ⟨by rw [e4]; exact hst, fun j hj => ?_, hzr.set _ (by omega) (by omega), by rw [List.length_set]; exact hzl⟩, ⟨HBk.out.set _ _⟩, ⟨below_setA HBl.out HA.out _ _⟩⟩
        rw [List.getD_eq_getElem?_getD, List.getElem?_set_ne (by omega), ← List.getD_eq_getElem?_getD]
        exact hzz j (by omega)
    ·
     have d1 : decide (i < (xs.length : Int)) = false := decide_eq_false ci
     have ei : i = (xs.length : Int) := by have := HI.out; omega
     subst ei
     obtain ⟨hI, hzz, hzr, hzl⟩ := HN.out
     simp only [Int.toNat_natCast, List.take_length, X.out.2.1, Y.out.2.1] at hI
     have hab : a * b < pw (L1 + L2) := by
      have h1 := nv_lt X.out.1.1
      have h2 := nv_lt Y.out.1.1
      rw [X.out.2.1] at h1
      rw [Y.out.2.1] at h2
      have h3 := pw_le X.out.2.2
      have h4 := pw_le Y.out.2.2
      rw [pw_add]
      have := Nat.mul_le_mul (Nat.le_of_lt (Nat.lt_of_lt_of_le h1 h3)) (Nat.le_of_lt (Nat.lt_of_lt_of_le h2 h4))
      have h5 := Nat.mul_lt_mul_of_lt_of_le (Nat.lt_of_lt_of_le h1 h3) (Nat.le_of_lt (Nat.lt_of_lt_of_le h2 h4)) (pw_pos L2)
      exact h5
     have Z := Aside0.mk (And.intro hI (And.intro hzr (And.intro hzl hab)))
     clear ci hI hzz hzr hzl hab
     go_wp2_with (first | (go_at_call 96; (with_reducible refine (nat_trim.own zs0 ad N1 (L1 + L2) _ HBk0.out Z.out.2.1 Z.out.2.2.1 (by have := NN.out; omega) (by rw [Z.out.1]; exact Z.out.2.2.2)).mono ?_); (rintro e w4 ⟨r, rfl, rfl, hc⟩; have RC := Aside0.mk hc; clear hc)))
     go_ret
     exact ⟨_, rfl, by rw [← Z.out.1]; exact RC.out, HBl0.out⟩
end Go.Proofs.YtnmfmiemkcaocaaGreat.Hand
namespace Go.Proofs.YtnmfmiemkcaocaaGreat.Hand
open Go.RowKit Go.Proofs.YtnmfmiemkcaocaaGreatW.PrintWords Go.Proofs.YtnmfmiemkcaocaaGreatW.PrintLast Go.Proofs.YtnmfmiemkcaocaaGreatW.PrintMore
set_option linter.unusedVariables false
set_option linter.unusedSimpArgs false
theorem ev_lit {ops : Array Oper} {Q : Exit → Act → World → Prop} {rest : List Oper} {o : Oper} {a : Act} {W : World} (hgd : o.guard = none) (xs : List Int) (n : Nat) (hn : xs.length = n)
  (hrun : (execOp a.eval o).run Tryz.prog W = .ok (.value (.slice (some ⟨W.heap.size, 0, none⟩) n n)) (W.alloc (.cells (nums .u32 xs).toArray 52)))
  (h : ∀ ad w1, Blk w1 ad xs → Below W.heap.size W w1 → W.heap.size ≤ ad.block → wpList Tryz.prog ops Q rest (a.put o.dst (.slice (some ad) n n)) w1) : wpList Tryz.prog ops Q (o :: rest) a W :=
 Kd.event_run hgd hrun (h ⟨W.heap.size, 0, none⟩ _ ⟨rfl, rfl, heap_alloc_new W _⟩ (below_alloc (Below.refl _ _) _) (Nat.le_refl _))
theorem nat_Of.run (a : Nat) (w : World) (ha : a < 18446744073709551616) :
  Calls Tryz.prog 67 #[.int .u64 (a : Int)] w fun e w' => ∃ r, e = .returned r ∧ NC w' r a 2 ∧ Below w.heap.size w w' := by
 obtain ⟨x, hx⟩ : ∃ x, Go.bits .and .u64 (a : Int) 4294967295 = x := ⟨_, rfl⟩
 obtain ⟨A, hA⟩ : ∃ A : Int, A = (a : Int) := ⟨_, rfl⟩
 have X := Aside0.mk (show x % 4294967296 = ((a % 4294967296 : Nat) : Int) by rw [← hx, and_low _ (by omega) (by omega)]; omega)
 rw [← hA] at hx ⊢
 have G := Aside0.mk (show Rg [x % 4294967296, A / 4294967296 % 4294967296] by
  intro y hy
  simp only [List.mem_cons, List.not_mem_nil, or_false] at hy
  rcases hy with rfl | rfl <;> omega)
 have V := Aside0.mk (show nv [x % 4294967296, A / 4294967296 % 4294967296] = a by
  simp only [nv]
  rw [X.out]
  omega)
 have HA := Aside0.mk (And.intro hA ha)
 clear hA ha
 go_enter Tryz.func67, Tryz.ntmps67
 have B := Aside0.mk (show Blk (w.alloc (.cells #[.int .u32 (x % 4294967296), .int .u32 (A / 4294967296 % 4294967296)] 52)) ⟨w.heap.size, 0, none⟩ [x % 4294967296, A / 4294967296 % 4294967296] from ⟨rfl, rfl, heap_alloc_new w _⟩)
 have T := Aside0.mk (nat_trim.own _ _ 2 2 _ B.out G.out rfl (by omega) (nv_lt G.out))
 go_wp2_with (first | (go_at_call 96; (with_reducible refine (T.out).mono ?_); (rintro e w4 ⟨r, rfl, rfl, hc⟩; rw [V.out] at hc; have RC := Aside0.mk hc; clear hc)))
 go_ret
 exact ⟨_, rfl, RC.out, below_alloc (Below.refl _ _) _⟩
def Own (w : World) (base : Nat) (v : Value) (xs : List Int) : Prop := Kd.R (Kd.int .u32) 52 w base (fun _ => True) v xs
theorem Own.rd {w : World} {base : Nat} {v : Value} {xs : List Int} (h : Own w base v xs) : Rd w v xs := by
 obtain ⟨A, c, rfl⟩ := Kd.R_slice h
 have := Kd.R_reads' h
 exact ⟨A, c, rfl, this.2.1, this.2.2⟩
theorem ev_append_rows {ops : Array Oper} {Q : Exit → Act → World → Prop} {rest : List Oper} {o : Oper} {a : Act} {w0 W : World} (hgd : o.guard = none) (s x : Operand)
  (ho : o.op = .call { callee := .builtin .append, args := #[s, x], argTypes := #[30, 30] }) (v : Value) (xs ys : List Int) (A : Option Addr) (m c : Nat) (hs : a.eval s = v) (hx : a.eval x = .slice A m c)
  (HO : Own W w0.heap.size v xs) (HR : Kd.C (Kd.int .u32) W A m ys) (HB : Below w0.heap.size w0 W) (hl : xs.length + m ≤ 10000000000)
  (h : ∀ v1 w1, Own w1 w0.heap.size v1 (xs ++ ys) → Below w0.heap.size w0 w1 → wpList Tryz.prog ops Q rest (a.put o.dst v1) w1) : wpList Tryz.prog ops Q (o :: rest) a W :=
 Kd.R_append_rows (Kd.int .u32) w0.heap.size hgd s x 30 52 (.int .u32 0) 4 ho Tryz.underlying30 info52 rfl (by decide) (by omega) v xs ys A m c (fun _ => True) (fun _ => False) hs hx HO HR (fun _ _ h => h) (fun _ h => h.elim) (fun _ _ => trivial) HB HB.size (by omega) (fun v1 w1 h1 h2 _ _ => h v1 w1 h1 h2)
theorem Own.lit (w0 W : World) (hb : Below w0.heap.size w0 W) : Own (W.alloc (.cells #[] 52)) w0.heap.size (.slice (some ⟨W.heap.size, 0, none⟩) 0 0) [] := by
 refine ⟨fun _ _ => trivial, [], ⟨rfl, .inr ⟨W.heap.size, 0, #[], rfl, hb.size, heap_alloc_new W _, Nat.le_refl _, by decide, rfl, rfl⟩⟩, Reps.none _ _⟩
theorem nat_Norm.run (v : Value) (a L : Nat) (w : World) (hv : NA w v a L) (hL : L ≤ 1000000000) :
  Calls Tryz.prog 98 #[v] w fun e w' => ∃ r, e = .returned r ∧ NC w' r a L ∧ Below w.heap.size w w' := by
 obtain ⟨xs0, hr1, hg1, hn1, hl1⟩ := hv
 have hlen1 : (xs0.take (tl xs0)).length = tl xs0 := by rw [List.length_take]; have := tl_le xs0; omega
 obtain ⟨xs, hxs⟩ : ∃ xs, xs0.take (tl xs0) = xs := ⟨_, rfl⟩
 have X := Aside0.mk (show Can xs ∧ nv xs = a ∧ xs.length ≤ L by rw [← hxs]; exact ⟨Can.trim hg1, by rw [nv_trim, hn1], by have := tl_le xs0; omega⟩)
 have R1 := Aside0.mk hr1
 have HL := Aside0.mk hL
 clear hr1 hg1 hn1 hl1 hlen1 hL
 have HB := Aside0.mk (below_alloc (Below.refl w.heap.size w) (.cells #[] 52))
 have HO := Aside0.mk (Own.lit w w (Below.refl _ _))
 go_enter Tryz.func98, Tryz.ntmps98
 go_wp2_with (first | (go_at_call 96; (with_reducible refine (nat_trim.run' xs0 v _ (R1.out.below (below_alloc (Below.refl _ _) _))).mono ?_); (rintro e w1 ⟨A, rfl, rfl, hc⟩; rw [hxs] at hc ⊢; have H1 := Aside0.mk hc; clear hc)) | ((with_reducible refine gate_dst (N := 6) rfl ?_); refine ev_append_rows rfl _ _ rfl _ [] xs A xs.length _ rfl rfl HO.out H1.out HB.out (by have := X.out.2.2; have := HL.out; simp only [List.length_nil]; omega) ?_; intro v1 w2 hb1 hb2; have RO := Aside0.mk hb1; have HB2 := Aside0.mk hb2; clear hb1 hb2))
 go_ret
 exact ⟨_, rfl, ⟨xs, RO.out.rd, X.out⟩, HB2.out⟩
end Go.Proofs.YtnmfmiemkcaocaaGreat.Hand
namespace Go.Proofs.YtnmfmiemkcaocaaGreat.Hand
open Go.RowKit Go.Proofs.YtnmfmiemkcaocaaGreatW.PrintWords Go.Proofs.YtnmfmiemkcaocaaGreatW.PrintLast Go.Proofs.YtnmfmiemkcaocaaGreatW.PrintMore
set_option linter.unusedVariables false
set_option linter.unusedSimpArgs false
theorem ev_append1 {ops : Array Oper} {Q : Exit → Act → World → Prop} {rest : List Oper} {o : Oper} {a : Act} {w0 W : World} (hgd : o.guard = none) (s x : Operand)
  (ho : o.op = .call { callee := .builtin .append, args := #[s, x], argTypes := #[30, 30] }) (v : Value) (xs : List Int) (p : Int) (hs : a.eval s = v) (hx : a.eval x = .slice (some ⟨W.heap.size, 0, none⟩) 1 1)
  (HO : Own W w0.heap.size v xs) (HB : Below w0.heap.size w0 W) (hl : xs.length + 1 ≤ 10000000000)
  (h : ∀ v1 w1, Own w1 w0.heap.size v1 (xs ++ [p]) → Below w0.heap.size w0 w1 → wpList Tryz.prog ops Q rest (a.put o.dst v1) w1) : wpList Tryz.prog ops Q (o :: rest) a (W.alloc (.cells #[.int .u32 p] 52)) :=
 Kd.R_append (Kd.int .u32) w0.heap.size hgd s x 30 52 (.int .u32 0) 4 ho Tryz.underlying30 info52 rfl (by decide) (by omega) v xs p [.int .u32 p] (fun _ => True) (fun _ => False) hs hx rfl (fun _ h => h.elim) (fun _ _ => trivial) HO HB HB.size (by omega) (fun v1 w1 h1 h2 _ _ => h v1 w1 h1 h2)
theorem Blk.own {w0 w : World} {ad : Addr} {C : Nat} (h : Blk w ad (List.replicate C 0)) (hb : w0.heap.size ≤ ad.block) (hC : C ≤ 10000000000) : Own w w0.heap.size (.slice (some ad) 0 C) [] := by
 obtain ⟨h1, h2, h3⟩ := h
 have e : ad = ⟨ad.block, 0, none⟩ := addr_ext rfl h1 h2
 refine ⟨fun _ _ => trivial, [], ⟨rfl, .inr ⟨ad.block, C, _, by rw [← e]; rfl, hb, h3, Nat.zero_le _, by simp only [maxLen]; omega, ?_, rfl⟩⟩, Reps.none _ _⟩
 show (nums .u32 (List.replicate C 0)).toArray.size = C * 1
 simp [nums]
theorem Own.below {w w1 : World} {base : Nat} {v : Value} {xs : List Int} (h : Own w base v xs) (hb : Below w.heap.size w w1) : Own w1 base v xs := Kd.R_below h hb
theorem take_getD (ys : List Int) (i : Nat) : nv (ys.take (i + 1)) = nv (ys.take i) + pw i * (ys.getD i 0).toNat := by
 rcases Nat.lt_or_ge i ys.length with h | h
 ·
  exact nv_take_succ ys i h
 ·
  rw [List.take_of_length_le (by omega), List.take_of_length_le h, List.getD_eq_getElem?_getD, List.getElem?_eq_none h]
  simp
theorem add_step (xs ys zs : List Int) (i C : Nat) (hz : zs.length = i) (I : nv (xs.take i) + nv (ys.take i) = nv zs + pw i * C) (s : Nat) (hs : s = C + (xs.getD i 0).toNat + (ys.getD i 0).toNat) :
  nv (xs.take (i + 1)) + nv (ys.take (i + 1)) = nv (zs ++ [((s % 4294967296 : Nat) : Int)]) + pw (i + 1) * (s / 4294967296) := by
 rw [take_getD, take_getD, nv_append, hz, pw_succ]
 have hd := Nat.div_add_mod s 4294967296
 simp only [nv, Int.toNat_natCast]
 generalize s / 4294967296 = q at *
 generalize s % 4294967296 = r at *
 have e : pw i * s = pw i * C + pw i * (xs.getD i 0).toNat + pw i * (ys.getD i 0).toNat := by rw [hs]; grind
 rw [← hd] at e
 grind
theorem nat_Add.run (v u : Value) (a b L : Nat) (w : World) (hv : NA w v a L) (hu : NA w u b L) (hL : L ≤ 1000000000) :
  Calls Tryz.prog 92 #[v, u] w fun e w' => ∃ r, e = .returned r ∧ NA w' r (a + b) (L + 1) ∧ Below w.heap.size w w' := by
 obtain ⟨xs0, hr1, hg1, hn1, hl1⟩ := hv
 obtain ⟨ys0, hr2, hg2, hn2, hl2⟩ := hu
 have hlen1 : (xs0.take (tl xs0)).length = tl xs0 := by rw [List.length_take]; have := tl_le xs0; omega
 have hlen2 : (ys0.take (tl ys0)).length = tl ys0 := by rw [List.length_take]; have := tl_le ys0; omega
 obtain ⟨xs, hxs⟩ : ∃ xs, xs0.take (tl xs0) = xs := ⟨_, rfl⟩
 obtain ⟨ys, hys⟩ : ∃ ys, ys0.take (tl ys0) = ys := ⟨_, rfl⟩
 have X := Aside0.mk (show Can xs ∧ nv xs = a ∧ xs.length ≤ L by rw [← hxs]; exact ⟨Can.trim hg1, by rw [nv_trim, hn1], by have := tl_le xs0; omega⟩)
 have Y := Aside0.mk (show Can ys ∧ nv ys = b ∧ ys.length ≤ L by rw [← hys]; exact ⟨Can.trim hg2, by rw [nv_trim, hn2], by have := tl_le ys0; omega⟩)
 have R1 := Aside0.mk hr1
 have R2 := Aside0.mk hr2
 have HL := Aside0.mk hL
 clear hr1 hr2 hg1 hg2 hn1 hn2 hl1 hl2 hlen1 hlen2 hL
 by_cases c : xs.length < ys.length
 ·
  have c1 : decide (xs.length < ys.length) = true := decide_eq_true c
  obtain ⟨m, hm⟩ : ∃ m, IntKind.i64.wrap ((ys.length : Int) + 1) = m := ⟨_, rfl⟩
  obtain ⟨N1, hN1⟩ : ∃ N1, N1 = ys.length + 1 := ⟨_, rfl⟩
  have M := Aside0.mk (show m = (N1 : Int) by have := Y.out.2.2; have := HL.out; rw [← hm, i64_w]; unfold wrap64; omega)
  have NN := Aside0.mk (show N1 = ys.length + 1 ∧ N1 ≤ 1000000001 ∧ xs.length ≤ ys.length by have := Y.out.2.2; have := HL.out; omega)
  clear c hN1
  go_enter Tryz.func92, Tryz.ntmps92
  go_wp2_with (first | (go_at_call 96; (with_reducible refine (nat_trim.run' xs0 v _ R1.out).mono ?_); (rintro e w1 ⟨A, rfl, rfl, hc⟩; rw [hxs] at hc ⊢; have H1 := Aside0.mk hc; clear hc)) | (go_at_call 96; (with_reducible refine (nat_trim.run' ys0 u _ R2.out).mono ?_); (rintro e w2 ⟨A2, rfl, rfl, hc⟩; rw [hys] at hc ⊢; have H2 := Aside0.mk hc; clear hc)) | ((with_reducible refine gate_dst (N := 25) rfl ?_); refine ev_make rfl _ _ rfl 0 m 0 N1 rfl rfl rfl M.out (Nat.zero_le _) (by have := NN.out; omega) ?_; intro ad w3 hb1 hb2 hb3; have B := Aside0.mk (Blk.own (w0 := w2) hb1 hb3 (by have := NN.out; omega)); have HB := Aside0.mk hb2; clear hb1 hb2 hb3))
  go_loopg [7, 8, 28] ys.length (fun kq v7 v8 v28 w' => ∃ (i C : Int) (zs : List Int), v8 = .int .u64 C ∧ v28 = .int .i64 i ∧ Aside0 (i + kq = (ys.length : Int) ∧ kq ≤ ys.length ∧ 0 ≤ C ∧ C ≤ 1) ∧ Aside0 (nv (ys.take i.toNat) + nv (xs.take i.toNat) = nv zs + pw i.toNat * C.toNat ∧ Rg zs ∧ zs.length = i.toNat) ∧ Aside0 (Own w' w2.heap.size v7 zs) ∧ Aside0 (Below w2.heap.size w2 w'))
  case atStart => exact ⟨0, 0, [], rfl, rfl, ⟨by omega, by omega, by omega, by omega⟩, ⟨by simp [nv], Rg.nil, rfl⟩, ⟨B.out⟩, ⟨HB.out⟩⟩
  case round =>
   obtain ⟨i, C, zs, rfl, rfl, HI, HN, HO, HBl⟩ := hrel
   by_cases ci : i < (ys.length : Int)
   ·
    have d1 : decide (i < (ys.length : Int)) = true := decide_eq_true ci
    have p1 : 0 ≤ i := by have := HI.out; omega
    obtain ⟨g1, hk⟩ : ∃ g1, gk = g1 + 1 := ⟨gk - 1, by have := HI.out; omega⟩
    subst hk
    obtain ⟨ad1, ea, hx⟩ := Kd.at_int H2.out i p1 ci
    cases ea
    replace hx := (HBl.out.cell (World.block_lt_of_cell? w2 _ hx)).trans hx
    obtain ⟨p, hpe⟩ : ∃ p, rd ys i = p := ⟨_, rfl⟩
    rw [hpe] at hx
    have hp0 : 0 ≤ p ∧ p < 4294967296 := by rw [← hpe]; exact Y.out.1.1.rd i
    have hw1 : IntKind.u64.wrap p = p := u64_small p hp0.1 (by omega)
    obtain ⟨t, ht⟩ : ∃ t, IntKind.u64.wrap (C + p) = t := ⟨_, rfl⟩
    have et : t = C + p := by have := HI.out; rw [← ht]; exact u64_small _ (by omega) (by omega)
    obtain ⟨i1, hi1⟩ : ∃ i1, IntKind.i64.wrap (i + 1) = i1 := ⟨_, rfl⟩
    by_cases cy : i < (xs.length : Int)
    ·
     have d2 : decide (i < (xs.length : Int)) = true := decide_eq_true cy
     obtain ⟨ad2, ea2, hy⟩ := Kd.at_int H1.out i p1 cy
     cases ea2
     replace hy := (HBl.out.cell (World.block_lt_of_cell? w2 _ hy)).trans hy
     obtain ⟨q, hqe⟩ : ∃ q, rd xs i = q := ⟨_, rfl⟩
     rw [hqe] at hy
     have hq0 : 0 ≤ q ∧ q < 4294967296 := by rw [← hqe]; exact X.out.1.1.rd i
     have hw2 : IntKind.u64.wrap q = q := u64_small q hq0.1 (by omega)
     obtain ⟨s, hs⟩ : ∃ s, IntKind.u64.wrap (t + q) = s := ⟨_, rfl⟩
     obtain ⟨r, hr⟩ : ∃ r, Go.bits .and .u64 s 4294967295 = r := ⟨_, rfl⟩
     have es : s = t + q := by have := HI.out; rw [← hs]; exact u64_small _ (by omega) (by omega)
     have E := Aside0.mk (show 0 ≤ i ∧ i < (ys.length : Int) ∧ 0 ≤ s ∧ s < 8589934592 ∧ s = C + p + q ∧ 0 ≤ p ∧ 0 ≤ q ∧ p = ys.getD i.toNat 0 ∧ q = xs.getD i.toNat 0 from ⟨p1, ci, by have := HI.out; omega, by have := HI.out; omega, by omega, hp0.1, hq0.1, hpe.symm, hqe.symm⟩)
     clear hp0 hq0 hpe hqe et es cy ci
     have q1 := eq_true E.out.2.1
     have q2 : (i < (xs.length : Int)) = True := eq_true (of_decide_eq_true d2)
     replace p1 := eq_true p1
     go_wp2_with (first | ((with_reducible refine gate_dst (N := 53) rfl ?_); refine ev_append1 rfl _ _ rfl _ zs (r % 4294967296) rfl rfl HO.out HBl.out (by have := HN.out; have := HI.out; have := NN.out; omega) ?_; intro v1 w4 hb1 hb2; have RO := Aside0.mk hb1; have HB2 := Aside0.mk hb2; clear hb1 hb2))
     obtain ⟨i0, ci, s0, s1, es, hp, hq, ep, eq⟩ := E.out
     obtain ⟨hI, hzr, hzl⟩ := HN.out
     obtain ⟨_, _, hC0, hC1⟩ := HI.out
     have hNN := NN.out
     obtain ⟨S, hS⟩ : ∃ S : Nat, s = (S : Int) := ⟨s.toNat, by omega⟩
     have hr2 : r % 4294967296 = ((S % 4294967296 : Nat) : Int) := by rw [← hr, and_low _ (by omega) (by omega)]; omega
     have hd : s / 4294967296 = ((S / 4294967296 : Nat) : Int) := by omega
     have ei1 : i1 = i + 1 := by rw [← hi1, i64_w]; unfold wrap64; omega
     have ei2 : i1.toNat = i.toNat + 1 := by omega
     have hst := add_step ys xs zs i.toNat C.toNat hzl hI S (by rw [← ep, ← eq]; omega)
     have RO2 := RO.out
     rw [hr2] at RO2
     rw [hd]
     go_roundg g1
     case measure => omega
     case rel => exact ⟨i1, _, _, rfl, rfl, ⟨by have := HI.out; omega, by have := HI.out; omega, by omega, by omega⟩, ⟨by rw [ei2]; exact hst, hzr.append (Rg.one (by omega) (by omega)), by rw [List.length_append, hzl, ei2]; rfl⟩, ⟨RO2⟩, ⟨HB2.out⟩⟩
    ·
     have d2 : decide (i < (xs.length : Int)) = false := decide_eq_false cy
     have hqe : xs.getD i.toNat 0 = 0 := by rw [List.getD_eq_getElem?_getD, List.getElem?_eq_none (by omega)]; rfl
     obtain ⟨r, hr⟩ : ∃ r, Go.bits .and .u64 t 4294967295 = r := ⟨_, rfl⟩
     obtain ⟨s, hs⟩ : ∃ s, s = t := ⟨_, rfl⟩
     have E := Aside0.mk (show 0 ≤ i ∧ i < (ys.length : Int) ∧ 0 ≤ s ∧ s < 8589934592 ∧ s = C + p + 0 ∧ 0 ≤ p ∧ (0 : Int) ≤ 0 ∧ p = ys.getD i.toNat 0 ∧ 0 = xs.getD i.toNat 0 from ⟨p1, ci, by have := HI.out; omega, by have := HI.out; omega, by omega, hp0.1, Int.le_refl _, hpe.symm, hqe.symm⟩)
     have S1 := Aside0.mk hs
     clear hp0 hpe hqe et hs cy ci
     have q1 := eq_true E.out.2.1
     replace p1 := eq_true p1
     go_wp2_with (first | ((with_reducible refine gate_dst (N := 53) rfl ?_); refine ev_append1 rfl _ _ rfl _ zs (r % 4294967296) rfl rfl HO.out HBl.out (by have := HN.out; have := HI.out; have := NN.out; omega) ?_; intro v1 w4 hb1 hb2; have RO := Aside0.mk hb1; have HB2 := Aside0.mk hb2; clear hb1 hb2))
     rw [← S1.out] at hr ⊢
     obtain ⟨i0, ci, s0, s1, es, hp, hq, ep, eq⟩ := E.out
     obtain ⟨hI, hzr, hzl⟩ := HN.out
     obtain ⟨_, _, hC0, hC1⟩ := HI.out
     have hNN := NN.out
     obtain ⟨S, hS⟩ : ∃ S : Nat, s = (S : Int) := ⟨s.toNat, by omega⟩
     have hr2 : r % 4294967296 = ((S % 4294967296 : Nat) : Int) := by rw [← hr, and_low _ (by omega) (by omega)]; omega
     have hd : s / 4294967296 = ((S / 4294967296 : Nat) : Int) := by omega
     have ei1 : i1 = i + 1 := by rw [← hi1, i64_w]; unfold wrap64; omega
     have ei2 : i1.toNat = i.toNat + 1 := by omega
     have hst := add_step ys xs zs i.toNat C.toNat hzl hI S (by rw [← ep, ← eq]; omega)
     have RO2 := RO.out
     rw [hr2] at RO2
     rw [hd]
     go_roundg g1
     case measure => omega
     case rel => exact ⟨i1, _, _, rfl, rfl, ⟨by have := HI.out; omega, by have := HI.out; omega, by omega, by omega⟩, ⟨by rw [ei2]; exact hst, hzr.append (Rg.one (by omega) (by omega)), by rw [List.length_append, hzl, ei2]; rfl⟩, ⟨RO2⟩, ⟨HB2.out⟩⟩
   ·
    have d1 : decide (i < (ys.length : Int)) = false := decide_eq_false ci
    have ei : i = (ys.length : Int) := by have := HI.out; omega
    subst ei
    obtain ⟨hI, hzr, hzl⟩ := HN.out
    simp only [Int.toNat_natCast, List.take_length] at hI hzl
    rw [List.take_of_length_le NN.out.2.2, Y.out.2.1, X.out.2.1] at hI
    have hc : C = 0 ∨ C = 1 := by have := HI.out; omega
    have Z := Aside0.mk (And.intro hI (And.intro hzr hzl))
    clear hI hzr hzl ci
    rcases hc with rfl | rfl
    ·
     go_wp2
     go_ret
     refine ⟨_, rfl, ⟨zs, HO.out.rd, Z.out.2.1, ?_, by have := Z.out.2.2; have := Y.out.2.2; omega⟩, HBl.out⟩
     have := Z.out.1
     simp only [Int.toNat_zero, Nat.mul_zero] at this
     omega
    ·
     go_wp2_with (first | ((with_reducible refine gate_dst (N := 63) rfl ?_); refine ev_append1 rfl _ _ rfl _ zs 1 rfl rfl HO.out HBl.out (by have := Z.out.2.2; have := Y.out.2.2; have := HL.out; omega) ?_; intro v1 w4 hb1 hb2; have RO := Aside0.mk hb1; have HB2 := Aside0.mk hb2; clear hb1 hb2))
     go_ret
     refine ⟨_, rfl, ⟨zs ++ [1], RO.out.rd, Z.out.2.1.append (Rg.one (by decide) (by decide)), ?_, by have := Z.out.2.2; have := Y.out.2.2; rw [List.length_append]; simp only [List.length_singleton]; omega⟩, HB2.out⟩
     have h1 := Z.out.1
     have h2 := Z.out.2.2
     rw [nv_append, h2]
     simp only [nv, Int.toNat_one] at h1 ⊢
     omega
 ·
  have c1 : decide (xs.length < ys.length) = false := decide_eq_false c
  obtain ⟨m, hm⟩ : ∃ m, IntKind.i64.wrap ((xs.length : Int) + 1) = m := ⟨_, rfl⟩
  obtain ⟨N1, hN1⟩ : ∃ N1, N1 = xs.length + 1 := ⟨_, rfl⟩
  have M := Aside0.mk (show m = (N1 : Int) by have := X.out.2.2; have := HL.out; rw [← hm, i64_w]; unfold wrap64; omega)
  have NN := Aside0.mk (show N1 = xs.length + 1 ∧ N1 ≤ 1000000001 ∧ ys.length ≤ xs.length by have := X.out.2.2; have := HL.out; omega)
  clear c hN1
  go_enter Tryz.func92, Tryz.ntmps92
  go_wp2_with (first | (go_at_call 96; (with_reducible refine (nat_trim.run' xs0 v _ R1.out).mono ?_); (rintro e w1 ⟨A, rfl, rfl, hc⟩; rw [hxs] at hc ⊢; have H1 := Aside0.mk hc; clear hc)) | (go_at_call 96; (with_reducible refine (nat_trim.run' ys0 u _ R2.out).mono ?_); (rintro e w2 ⟨A2, rfl, rfl, hc⟩; rw [hys] at hc ⊢; have H2 := Aside0.mk hc; clear hc)) | ((with_reducible refine gate_dst (N := 25) rfl ?_); refine ev_make rfl _ _ rfl 0 m 0 N1 rfl rfl rfl M.out (Nat.zero_le _) (by have := NN.out; omega) ?_; intro ad w3 hb1 hb2 hb3; have B := Aside0.mk (Blk.own (w0 := w2) hb1 hb3 (by have := NN.out; omega)); have HB := Aside0.mk hb2; clear hb1 hb2 hb3))
  go_loopg [7, 8, 28] xs.length (fun kq v7 v8 v28 w' => ∃ (i C : Int) (zs : List Int), v8 = .int .u64 C ∧ v28 = .int .i64 i ∧ Aside0 (i + kq = (xs.length : Int) ∧ kq ≤ xs.length ∧ 0 ≤ C ∧ C ≤ 1) ∧ Aside0 (nv (xs.take i.toNat) + nv (ys.take i.toNat) = nv zs + pw i.toNat * C.toNat ∧ Rg zs ∧ zs.length = i.toNat) ∧ Aside0 (Own w' w2.heap.size v7 zs) ∧ Aside0 (Below w2.heap.size w2 w'))
  case atStart => exact ⟨0, 0, [], rfl, rfl, ⟨by omega, by omega, by omega, by omega⟩, ⟨by simp [nv], Rg.nil, rfl⟩, ⟨B.out⟩, ⟨HB.out⟩⟩
  case round =>
   obtain ⟨i, C, zs, rfl, rfl, HI, HN, HO, HBl⟩ := hrel
   by_cases ci : i < (xs.length : Int)
   ·
    have d1 : decide (i < (xs.length : Int)) = true := decide_eq_true ci
    have p1 : 0 ≤ i := by have := HI.out; omega
    obtain ⟨g1, hk⟩ : ∃ g1, gk = g1 + 1 := ⟨gk - 1, by have := HI.out; omega⟩
    subst hk
    obtain ⟨ad1, ea, hx⟩ := Kd.at_int H1.out i p1 ci
    cases ea
    replace hx := (HBl.out.cell (World.block_lt_of_cell? w2 _ hx)).trans hx
    obtain ⟨p, hpe⟩ : ∃ p, rd xs i = p := ⟨_, rfl⟩
    rw [hpe] at hx
    have hp0 : 0 ≤ p ∧ p < 4294967296 := by rw [← hpe]; exact X.out.1.1.rd i
    have hw1 : IntKind.u64.wrap p = p := u64_small p hp0.1 (by omega)
    obtain ⟨t, ht⟩ : ∃ t, IntKind.u64.wrap (C + p) = t := ⟨_, rfl⟩
    have et : t = C + p := by have := HI.out; rw [← ht]; exact u64_small _ (by omega) (by omega)
    obtain ⟨i1, hi1⟩ : ∃ i1, IntKind.i64.wrap (i + 1) = i1 := ⟨_, rfl⟩
    by_cases cy : i < (ys.length : Int)
    ·
     have d2 : decide (i < (ys.length : Int)) = true := decide_eq_true cy
     obtain ⟨ad2, ea2, hy⟩ := Kd.at_int H2.out i p1 cy
     cases ea2
     replace hy := (HBl.out.cell (World.block_lt_of_cell? w2 _ hy)).trans hy
     obtain ⟨q, hqe⟩ : ∃ q, rd ys i = q := ⟨_, rfl⟩
     rw [hqe] at hy
     have hq0 : 0 ≤ q ∧ q < 4294967296 := by rw [← hqe]; exact Y.out.1.1.rd i
     have hw2 : IntKind.u64.wrap q = q := u64_small q hq0.1 (by omega)
     obtain ⟨s, hs⟩ : ∃ s, IntKind.u64.wrap (t + q) = s := ⟨_, rfl⟩
     obtain ⟨r, hr⟩ : ∃ r, Go.bits .and .u64 s 4294967295 = r := ⟨_, rfl⟩
     have es : s = t + q := by have := HI.out; rw [← hs]; exact u64_small _ (by omega) (by omega)
     have E := Aside0.mk (show 0 ≤ i ∧ i < (xs.length : Int) ∧ 0 ≤ s ∧ s < 8589934592 ∧ s = C + p + q ∧ 0 ≤ p ∧ 0 ≤ q ∧ p = xs.getD i.toNat 0 ∧ q = ys.getD i.toNat 0 from ⟨p1, ci, by have := HI.out; omega, by have := HI.out; omega, by omega, hp0.1, hq0.1, hpe.symm, hqe.symm⟩)
     clear hp0 hq0 hpe hqe et es cy ci
     have q1 := eq_true E.out.2.1
     have q2 : (i < (ys.length : Int)) = True := eq_true (of_decide_eq_true d2)
     replace p1 := eq_true p1
     go_wp2_with (first | ((with_reducible refine gate_dst (N := 53) rfl ?_); refine ev_append1 rfl _ _ rfl _ zs (r % 4294967296) rfl rfl HO.out HBl.out (by have := HN.out; have := HI.out; have := NN.out; omega) ?_; intro v1 w4 hb1 hb2; have RO := Aside0.mk hb1; have HB2 := Aside0.mk hb2; clear hb1 hb2))
     obtain ⟨i0, ci, s0, s1, es, hp, hq, ep, eq⟩ := E.out
     obtain ⟨hI, hzr, hzl⟩ := HN.out
     obtain ⟨_, _, hC0, hC1⟩ := HI.out
     have hNN := NN.out
     obtain ⟨S, hS⟩ : ∃ S : Nat, s = (S : Int) := ⟨s.toNat, by omega⟩
     have hr2 : r % 4294967296 = ((S % 4294967296 : Nat) : Int) := by rw [← hr, and_low _ (by omega) (by omega)]; omega
     have hd : s / 4294967296 = ((S / 4294967296 : Nat) : Int) := by omega
     have ei1 : i1 = i + 1 := by rw [← hi1, i64_w]; unfold wrap64; omega
     have ei2 : i1.toNat = i.toNat + 1 := by omega
     have hst := add_step xs ys zs i.toNat C.toNat hzl hI S (by rw [← ep, ← eq]; omega)
     have RO2 := RO.out
     rw [hr2] at RO2
     rw [hd]
     go_roundg g1
     case measure => omega
     case rel => exact ⟨i1, _, _, rfl, rfl, ⟨by have := HI.out; omega, by have := HI.out; omega, by omega, by omega⟩, ⟨by rw [ei2]; exact hst, hzr.append (Rg.one (by omega) (by omega)), by rw [List.length_append, hzl, ei2]; rfl⟩, ⟨RO2⟩, ⟨HB2.out⟩⟩
    ·
     have d2 : decide (i < (ys.length : Int)) = false := decide_eq_false cy
     have hqe : ys.getD i.toNat 0 = 0 := by rw [List.getD_eq_getElem?_getD, List.getElem?_eq_none (by omega)]; rfl
     obtain ⟨r, hr⟩ : ∃ r, Go.bits .and .u64 t 4294967295 = r := ⟨_, rfl⟩
     obtain ⟨s, hs⟩ : ∃ s, s = t := ⟨_, rfl⟩
     have E := Aside0.mk (show 0 ≤ i ∧ i < (xs.length : Int) ∧ 0 ≤ s ∧ s < 8589934592 ∧ s = C + p + 0 ∧ 0 ≤ p ∧ (0 : Int) ≤ 0 ∧ p = xs.getD i.toNat 0 ∧ 0 = ys.getD i.toNat 0 from ⟨p1, ci, by have := HI.out; omega, by have := HI.out; omega, by omega, hp0.1, Int.le_refl _, hpe.symm, hqe.symm⟩)
     have S1 := Aside0.mk hs
     clear hp0 hpe hqe et hs cy ci
     have q1 := eq_true E.out.2.1
     replace p1 := eq_true p1
     go_wp2_with (first | ((with_reducible refine gate_dst (N := 53) rfl ?_); refine ev_append1 rfl _ _ rfl _ zs (r % 4294967296) rfl rfl HO.out HBl.out (by have := HN.out; have := HI.out; have := NN.out; omega) ?_; intro v1 w4 hb1 hb2; have RO := Aside0.mk hb1; have HB2 := Aside0.mk hb2; clear hb1 hb2))
     rw [← S1.out] at hr ⊢
     obtain ⟨i0, ci, s0, s1, es, hp, hq, ep, eq⟩ := E.out
     obtain ⟨hI, hzr, hzl⟩ := HN.out
     obtain ⟨_, _, hC0, hC1⟩ := HI.out
     have hNN := NN.out
     obtain ⟨S, hS⟩ : ∃ S : Nat, s = (S : Int) := ⟨s.toNat, by omega⟩
     have hr2 : r % 4294967296 = ((S % 4294967296 : Nat) : Int) := by rw [← hr, and_low _ (by omega) (by omega)]; omega
     have hd : s / 4294967296 = ((S / 4294967296 : Nat) : Int) := by omega
     have ei1 : i1 = i + 1 := by rw [← hi1, i64_w]; unfold wrap64; omega
     have ei2 : i1.toNat = i.toNat + 1 := by omega
     have hst := add_step xs ys zs i.toNat C.toNat hzl hI S (by rw [← ep, ← eq]; omega)
     have RO2 := RO.out
     rw [hr2] at RO2
     rw [hd]
     go_roundg g1
     case measure => omega
     case rel => exact ⟨i1, _, _, rfl, rfl, ⟨by have := HI.out; omega, by have := HI.out; omega, by omega, by omega⟩, ⟨by rw [ei2]; exact hst, hzr.append (Rg.one (by omega) (by omega)), by rw [List.length_append, hzl, ei2]; rfl⟩, ⟨RO2⟩, ⟨HB2.out⟩⟩
   ·
    have d1 : decide (i < (xs.length : Int)) = false := decide_eq_false ci
    have ei : i = (xs.length : Int) := by have := HI.out; omega
    subst ei
    obtain ⟨hI, hzr, hzl⟩ := HN.out
    simp only [Int.toNat_natCast, List.take_length] at hI hzl
    rw [List.take_of_length_le NN.out.2.2, X.out.2.1, Y.out.2.1] at hI
    have hc : C = 0 ∨ C = 1 := by have := HI.out; omega
    have Z := Aside0.mk (And.intro hI (And.intro hzr hzl))
    clear hI hzr hzl ci
    rcases hc with rfl | rfl
    ·
     go_wp2
     go_ret
     refine ⟨_, rfl, ⟨zs, HO.out.rd, Z.out.2.1, ?_, by have := Z.out.2.2; have := X.out.2.2; omega⟩, HBl.out⟩
     have := Z.out.1
     simp only [Int.toNat_zero, Nat.mul_zero] at this
     omega
    ·
     go_wp2_with (first | ((with_reducible refine gate_dst (N := 63) rfl ?_); refine ev_append1 rfl _ _ rfl _ zs 1 rfl rfl HO.out HBl.out (by have := Z.out.2.2; have := X.out.2.2; have := HL.out; omega) ?_; intro v1 w4 hb1 hb2; have RO := Aside0.mk hb1; have HB2 := Aside0.mk hb2; clear hb1 hb2))
     go_ret
     refine ⟨_, rfl, ⟨zs ++ [1], RO.out.rd, Z.out.2.1.append (Rg.one (by decide) (by decide)), ?_, by have := Z.out.2.2; have := X.out.2.2; rw [List.length_append]; simp only [List.length_singleton]; omega⟩, HB2.out⟩
     have h1 := Z.out.1
     have h2 := Z.out.2.2
     rw [nv_append, h2]
     simp only [nv, Int.toNat_one] at h1 ⊢
     omega
end Go.Proofs.YtnmfmiemkcaocaaGreat.Hand
namespace Go.Proofs.YtnmfmiemkcaocaaGreat.Hand
open Go.RowKit Go.Proofs.YtnmfmiemkcaocaaGreatW.PrintWords Go.Proofs.YtnmfmiemkcaocaaGreatW.PrintLast Go.Proofs.YtnmfmiemkcaocaaGreatW.PrintMore
set_option linter.unusedVariables false
set_option linter.unusedSimpArgs false
theorem sub_step (xs ys zs : List Int) (i b b1 r : Nat) (hi : i < xs.length) (hz : i < zs.length) (I : nv (xs.take i) + pw i * b = nv (ys.take i) + nv (zs.take i)) (hs : (xs.getD i 0).toNat + 4294967296 * b1 = r + b + (ys.getD i 0).toNat) :
  nv (xs.take (i + 1)) + pw (i + 1) * b1 = nv (ys.take (i + 1)) + nv ((zs.set i (r : Int)).take (i + 1)) := by
 rw [nv_take_succ _ _ hi, take_getD ys, take_set_self _ _ _ hz, pw_succ]
 simp only [Int.toNat_natCast]
 have e : pw i * (xs.getD i 0).toNat + pw i * (4294967296 * b1) = pw i * r + pw i * b + pw i * (ys.getD i 0).toNat := by rw [← Nat.mul_add, hs, Nat.mul_add, Nat.mul_add]
 grind
theorem below_drewN' (w : World) (n : Nat) : Below w.heap.size w (w.drewN n) := pw_below_drewN (Below.refl _ _) n
theorem nat_Sub.run (v u : Value) (a b L : Nat) (w : World) (hv : NA w v a L) (hu : NA w u b L) (hL : L ≤ 1000000000) :
  Calls Tryz.prog 118 #[v, u] w fun e w' => Below w.heap.size w w' ∧ ((a < b ∧ e = .returned (.tuple #[.slice none 0 0, .bool false])) ∨ (b ≤ a ∧ ∃ r, e = .returned (.tuple #[r, .bool true]) ∧ NC w' r (a - b) L)) := by
 obtain ⟨xs0, hr1, hg1, hn1, hl1⟩ := hv
 obtain ⟨ys0, hr2, hg2, hn2, hl2⟩ := hu
 have hlen1 : (xs0.take (tl xs0)).length = tl xs0 := by rw [List.length_take]; have := tl_le xs0; omega
 have hlen2 : (ys0.take (tl ys0)).length = tl ys0 := by rw [List.length_take]; have := tl_le ys0; omega
 obtain ⟨xs, hxs⟩ : ∃ xs, xs0.take (tl xs0) = xs := ⟨_, rfl⟩
 obtain ⟨ys, hys⟩ : ∃ ys, ys0.take (tl ys0) = ys := ⟨_, rfl⟩
 have X := Aside0.mk (show Can xs ∧ nv xs = a ∧ xs.length ≤ L by rw [← hxs]; exact ⟨Can.trim hg1, by rw [nv_trim, hn1], by have := tl_le xs0; omega⟩)
 have Y := Aside0.mk (show Can ys ∧ nv ys = b ∧ ys.length ≤ L by rw [← hys]; exact ⟨Can.trim hg2, by rw [nv_trim, hn2], by have := tl_le ys0; omega⟩)
 have R1 := Aside0.mk hr1
 have R2 := Aside0.mk hr2
 have HL := Aside0.mk hL
 clear hr1 hr2 hg1 hg2 hn1 hn2 hl1 hl2 hlen1 hlen2 hL
 by_cases c : a < b
 ·
  have c1 : decide (cmpN a b < 0) = true := by unfold cmpN; rw [if_pos c]; rfl
  go_enter Tryz.func118, Tryz.ntmps118
  go_wp2_with (first | (go_at_call 96; (with_reducible refine (nat_trim.run' xs0 v _ R1.out).mono ?_); (rintro e w1 ⟨A, rfl, rfl, hc⟩; rw [hxs] at hc ⊢; have H1 := Aside0.mk hc; clear hc)) | (go_at_call 96; (with_reducible refine (nat_trim.run' ys0 u _ R2.out).mono ?_); (rintro e w2 ⟨A2, rfl, rfl, hc⟩; rw [hys] at hc ⊢; have H2 := Aside0.mk hc; clear hc; have T := Aside0.mk (nat_Cmp.run (.slice A xs.length (tl xs0)) (.slice A2 ys.length (tl ys0)) a b L w2 ⟨xs, ⟨A, tl xs0, rfl, by have h := congrArg List.length hxs; rw [List.length_take] at h; omega, H1.out⟩, X.out.1.1, X.out.2⟩ ⟨ys, ⟨A2, tl ys0, rfl, by have h := congrArg List.length hys; rw [List.length_take] at h; omega, H2.out⟩, Y.out.1.1, Y.out.2⟩ HL.out))) | (go_at_call 68; (with_reducible refine (T.out).mono ?_); (rintro e w5 ⟨rfl, nd, rfl⟩)))
  go_ret2
  exact ⟨below_drewN' w2 nd, .inl ⟨c, rfl⟩⟩
 ·
  have c1 : decide (cmpN a b < 0) = false := by unfold cmpN; rw [if_neg c]; split <;> rfl
  go_enter Tryz.func118, Tryz.ntmps118
  go_wp2_with (first | (go_at_call 96; (with_reducible refine (nat_trim.run' xs0 v _ R1.out).mono ?_); (rintro e w1 ⟨A, rfl, rfl, hc⟩; rw [hxs] at hc ⊢; have H1 := Aside0.mk hc; clear hc)) | (go_at_call 96; (with_reducible refine (nat_trim.run' ys0 u _ R2.out).mono ?_); (rintro e w2 ⟨A2, rfl, rfl, hc⟩; rw [hys] at hc ⊢; have H2 := Aside0.mk hc; clear hc; have T := Aside0.mk (nat_Cmp.run (.slice A xs.length (tl xs0)) (.slice A2 ys.length (tl ys0)) a b L w2 ⟨xs, ⟨A, tl xs0, rfl, by have h := congrArg List.length hxs; rw [List.length_take] at h; omega, H1.out⟩, X.out.1.1, X.out.2⟩ ⟨ys, ⟨A2, tl ys0, rfl, by have h := congrArg List.length hys; rw [List.length_take] at h; omega, H2.out⟩, Y.out.1.1, Y.out.2⟩ HL.out))) | (go_at_call 68; (with_reducible refine (T.out).mono ?_); (rintro e w5 ⟨rfl, nd, rfl⟩)) | ((with_reducible refine gate_dst (N := 24) rfl ?_); refine ev_make rfl _ _ rfl (xs.length : Int) (xs.length : Int) xs.length xs.length rfl rfl rfl rfl (Nat.le_refl _) (by have := X.out.2.2; have := HL.out; omega) ?_; intro ad w3 hb1 hb2 hb3; have B := Aside0.mk hb1; have HB := Aside0.mk (below_step (below_drewN' w2 nd) hb2); have HA := Aside0.mk (show w2.heap.size ≤ ad.block from hb3); clear hb1 hb2 hb3))
  go_loopg [9, 27] xs.length (fun kq v9 v27 w' => ∃ (bo i : Int) (zs : List Int), v9 = .int .u64 bo ∧ v27 = .int .i64 i ∧ Aside0 (i + kq = (xs.length : Int) ∧ kq ≤ xs.length ∧ 0 ≤ bo ∧ bo ≤ 1) ∧ Aside0 (nv (xs.take i.toNat) + pw i.toNat * bo.toNat = nv (ys.take i.toNat) + nv (zs.take i.toNat) ∧ Rg zs ∧ zs.length = xs.length) ∧ Aside0 (Blk w' ad zs) ∧ Aside0 (Below w2.heap.size w2 w'))
  case atStart => exact ⟨0, 0, _, rfl, rfl, ⟨by omega, by omega, by omega, by omega⟩, ⟨by simp [nv], Rg.zeros _, List.length_replicate⟩, ⟨B.out⟩, ⟨HB.out⟩⟩
  case round =>
   obtain ⟨bo, i, zs, rfl, rfl, HI, HN, HBk, HBl⟩ := hrel
   by_cases ci : i < (xs.length : Int)
   ·
    have d1 : decide (i < (xs.length : Int)) = true := decide_eq_true ci
    have p1 : 0 ≤ i := by have := HI.out; omega
    obtain ⟨g1, hk⟩ : ∃ g1, gk = g1 + 1 := ⟨gk - 1, by have := HI.out; omega⟩
    subst hk
    obtain ⟨ad1, ea, hx⟩ := Kd.at_int H1.out i p1 ci
    cases ea
    replace hx := (HBl.out.cell (World.block_lt_of_cell? w2 _ hx)).trans hx
    obtain ⟨p, hpe⟩ : ∃ p, rd xs i = p := ⟨_, rfl⟩
    rw [hpe] at hx
    have hp0 : 0 ≤ p ∧ p < 4294967296 := by rw [← hpe]; exact X.out.1.1.rd i
    have hw1 : IntKind.u64.wrap p = p := u64_small p hp0.1 (by omega)
    have hcl := HBk.out.cell i p1 (by have := HN.out.2.2; omega)
    have hfz := HBk.out.frozen i.toNat
    obtain ⟨i1, hi1⟩ : ∃ i1, IntKind.i64.wrap (i + 1) = i1 := ⟨_, rfl⟩
    by_cases cy : i < (ys.length : Int)
    ·
     have d2 : decide (i < (ys.length : Int)) = true := decide_eq_true cy
     obtain ⟨ad2, ea2, hy⟩ := Kd.at_int H2.out i p1 cy
     cases ea2
     replace hy := (HBl.out.cell (World.block_lt_of_cell? w2 _ hy)).trans hy
     obtain ⟨q, hqe⟩ : ∃ q, rd ys i = q := ⟨_, rfl⟩
     rw [hqe] at hy
     have hq0 : 0 ≤ q ∧ q < 4294967296 := by rw [← hqe]; exact Y.out.1.1.rd i
     have hw2 : IntKind.u64.wrap q = q := u64_small q hq0.1 (by omega)
     obtain ⟨t, ht⟩ : ∃ t, IntKind.u64.wrap (bo + q) = t := ⟨_, rfl⟩
     have et : t = bo + q := by have := HI.out; rw [← ht]; exact u64_small _ (by omega) (by omega)
     have q2 : (i < (ys.length : Int)) = True := eq_true cy
     have hqe2 : q = ys.getD i.toNat 0 := hqe.symm
     clear hqe cy
     by_cases cp : p < t
     ·
      have d3 : decide (p < t) = true := decide_eq_true cp
      obtain ⟨h, hh⟩ : ∃ h, IntKind.u64.wrap (p + 4294967296) = h := ⟨_, rfl⟩
      obtain ⟨r, hr⟩ : ∃ r, IntKind.u64.wrap (h - t) = r := ⟨_, rfl⟩
      have eh : h = p + 4294967296 := by rw [← hh]; exact u64_small _ (by omega) (by omega)
      have er : r = h - t := by have := HI.out; rw [← hr]; exact u64_small _ (by omega) (by omega)
      have E := Aside0.mk (show 0 ≤ i ∧ i < (xs.length : Int) ∧ 0 ≤ r ∧ r < 4294967296 ∧ p + 4294967296 * 1 = r + bo + q ∧ 0 ≤ p ∧ 0 ≤ q ∧ p = xs.getD i.toNat 0 ∧ q = ys.getD i.toNat 0 from ⟨p1, ci, by have := HI.out; omega, by have := HI.out; omega, by omega, hp0.1, hq0.1, hpe.symm, hqe2⟩)
      clear hp0 hq0 hpe hqe2 et cp eh er ci
      have q1 := eq_true E.out.2.1
      replace p1 := eq_true p1
      go_wp2
      obtain ⟨i0, ci, s0, s1, es, hp, hq, ep, eq⟩ := E.out
      obtain ⟨hI, hzr, hzl⟩ := HN.out
      obtain ⟨hik, hkl, hC0, hC1⟩ := HI.out
      have hxl := X.out.2.2
      have hLL := HL.out
      have ei1 : i1 = i + 1 := by rw [← hi1, i64_w]; unfold wrap64; omega
      have ei2 : i1.toNat = i.toNat + 1 := by omega
      have hst := sub_step xs ys zs i.toNat (bo).toNat 1 r.toNat (by omega) (by omega) hI (by rw [← ep, ← eq]; omega)
      rw [Int.toNat_of_nonneg s0] at hst
      rw [show r % 4294967296 = r by omega]
      go_roundg g1
      case measure => omega
      case rel => exact ⟨_, i1, _, rfl, rfl, ⟨by omega, by omega, by omega, by omega⟩, ⟨by rw [ei2]; exact hst, hzr.set _ s0 s1, by rw [List.length_set]; exact hzl⟩, ⟨HBk.out.set _ _⟩, ⟨below_setA HBl.out HA.out _ _⟩⟩
     ·
      have d3 : decide (p < t) = false := decide_eq_false cp
      obtain ⟨r, hr⟩ : ∃ r, IntKind.u64.wrap (p - t) = r := ⟨_, rfl⟩
      have er : r = p - t := by have := HI.out; rw [← hr]; exact u64_small _ (by omega) (by omega)
      have E := Aside0.mk (show 0 ≤ i ∧ i < (xs.length : Int) ∧ 0 ≤ r ∧ r < 4294967296 ∧ p + 4294967296 * 0 = r + bo + q ∧ 0 ≤ p ∧ 0 ≤ q ∧ p = xs.getD i.toNat 0 ∧ q = ys.getD i.toNat 0 from ⟨p1, ci, by have := HI.out; omega, by have := HI.out; omega, by omega, hp0.1, hq0.1, hpe.symm, hqe2⟩)
      clear hp0 hq0 hpe hqe2 et cp er ci
      have q1 := eq_true E.out.2.1
      replace p1 := eq_true p1
      go_wp2
      obtain ⟨i0, ci, s0, s1, es, hp, hq, ep, eq⟩ := E.out
      obtain ⟨hI, hzr, hzl⟩ := HN.out
      obtain ⟨hik, hkl, hC0, hC1⟩ := HI.out
      have hxl := X.out.2.2
      have hLL := HL.out
      have ei1 : i1 = i + 1 := by rw [← hi1, i64_w]; unfold wrap64; omega
      have ei2 : i1.toNat = i.toNat + 1 := by omega
      have hst := sub_step xs ys zs i.toNat (bo).toNat 0 r.toNat (by omega) (by omega) hI (by rw [← ep, ← eq]; omega)
      rw [Int.toNat_of_nonneg s0] at hst
      rw [show r % 4294967296 = r by omega]
      go_roundg g1
      case measure => omega
      case rel => exact ⟨_, i1, _, rfl, rfl, ⟨by omega, by omega, by omega, by omega⟩, ⟨by rw [ei2]; exact hst, hzr.set _ s0 s1, by rw [List.length_set]; exact hzl⟩, ⟨HBk.out.set _ _⟩, ⟨below_setA HBl.out HA.out _ _⟩⟩
    ·
     have d2 : decide (i < (ys.length : Int)) = false := decide_eq_false cy
     obtain ⟨q, hq⟩ : ∃ q : Int, q = 0 := ⟨_, rfl⟩
     have hqe2 : q = ys.getD i.toNat 0 := by rw [List.getD_eq_getElem?_getD, List.getElem?_eq_none (by omega)]; exact hq
     have hq0 : 0 ≤ q ∧ q < 4294967296 := by omega
     obtain ⟨t, ht⟩ : ∃ t, t = bo := ⟨_, rfl⟩
     have et : t = bo + q := by omega
     subst ht
     clear cy
     by_cases cp : p < t
     ·
      have d3 : decide (p < t) = true := decide_eq_true cp
      obtain ⟨h, hh⟩ : ∃ h, IntKind.u64.wrap (p + 4294967296) = h := ⟨_, rfl⟩
      obtain ⟨r, hr⟩ : ∃ r, IntKind.u64.wrap (h - t) = r := ⟨_, rfl⟩
      have eh : h = p + 4294967296 := by rw [← hh]; exact u64_small _ (by omega) (by omega)
      have er : r = h - t := by have := HI.out; rw [← hr]; exact u64_small _ (by omega) (by omega)
      have E := Aside0.mk (show 0 ≤ i ∧ i < (xs.length : Int) ∧ 0 ≤ r ∧ r < 4294967296 ∧ p + 4294967296 * 1 = r + t + q ∧ 0 ≤ p ∧ 0 ≤ q ∧ p = xs.getD i.toNat 0 ∧ q = ys.getD i.toNat 0 from ⟨p1, ci, by have := HI.out; omega, by have := HI.out; omega, by omega, hp0.1, hq0.1, hpe.symm, hqe2⟩)
      clear hp0 hq0 hpe hqe2 et cp eh er ci
      have q1 := eq_true E.out.2.1
      replace p1 := eq_true p1
      go_wp2
      obtain ⟨i0, ci, s0, s1, es, hp, hq, ep, eq⟩ := E.out
      obtain ⟨hI, hzr, hzl⟩ := HN.out
      obtain ⟨hik, hkl, hC0, hC1⟩ := HI.out
      have hxl := X.out.2.2
      have hLL := HL.out
      have ei1 : i1 = i + 1 := by rw [← hi1, i64_w]; unfold wrap64; omega
      have ei2 : i1.toNat = i.toNat + 1 := by omega
      have hst := sub_step xs ys zs i.toNat t.toNat 1 r.toNat (by omega) (by omega) hI (by rw [← ep, ← eq]; omega)
      rw [Int.toNat_of_nonneg s0] at hst
      rw [show r % 4294967296 = r by omega]
      go_roundg g1
      case measure => omega
      case rel => exact ⟨_, i1, _, rfl, rfl, ⟨by omega, by omega, by omega, by omega⟩, ⟨by rw [ei2]; exact hst, hzr.set _ s0 s1, by rw [List.length_set]; exact hzl⟩, ⟨HBk.out.set _ _⟩, ⟨below_setA HBl.out HA.out _ _⟩⟩
     ·
      have d3 : decide (p < t) = false := decide_eq_false cp
      obtain ⟨r, hr⟩ : ∃ r, IntKind.u64.wrap (p - t) = r := ⟨_, rfl⟩
      have er : r = p - t := by have := HI.out; rw [← hr]; exact u64_small _ (by omega) (by omega)
      have E := Aside0.mk (show 0 ≤ i ∧ i < (xs.length : Int) ∧ 0 ≤ r ∧ r < 4294967296 ∧ p + 4294967296 * 0 = r + t + q ∧ 0 ≤ p ∧ 0 ≤ q ∧ p = xs.getD i.toNat 0 ∧ q = ys.getD i.toNat 0 from ⟨p1, ci, by have := HI.out; omega, by have := HI.out; omega, by omega, hp0.1, hq0.1, hpe.symm, hqe2⟩)
      clear hp0 hq0 hpe hqe2 et cp er ci
      have q1 := eq_true E.out.2.1
      replace p1 := eq_true p1
      go_wp2
      obtain ⟨i0, ci, s0, s1, es, hp, hq, ep, eq⟩ := E.out
      obtain ⟨hI, hzr, hzl⟩ := HN.out
      obtain ⟨hik, hkl, hC0, hC1⟩ := HI.out
      have hxl := X.out.2.2
      have hLL := HL.out
      have ei1 : i1 = i + 1 := by rw [← hi1, i64_w]; unfold wrap64; omega
      have ei2 : i1.toNat = i.toNat + 1 := by omega
      have hst := sub_step xs ys zs i.toNat t.toNat 0 r.toNat (by omega) (by omega) hI (by rw [← ep, ← eq]; omega)
      rw [Int.toNat_of_nonneg s0] at hst
      rw [show r % 4294967296 = r by omega]
      go_roundg g1
      case measure => omega
      case rel => exact ⟨_, i1, _, rfl, rfl, ⟨by omega, by omega, by omega, by omega⟩, ⟨by rw [ei2]; exact hst, hzr.set _ s0 s1, by rw [List.length_set]; exact hzl⟩, ⟨HBk.out.set _ _⟩, ⟨below_setA HBl.out HA.out _ _⟩⟩
   ·
    have d1 : decide (i < (xs.length : Int)) = false := decide_eq_false ci
    have ei : i = (xs.length : Int) := by have := HI.out; omega
    subst ei
    obtain ⟨hI, hzr, hzl⟩ := HN.out
    have hly : ys.length ≤ xs.length := by
     rcases Nat.lt_or_ge xs.length ys.length with h | h
     ·
      have := nv_lt_of_tl X.out.1.1 Y.out.1.1 (by rw [X.out.1.2, Y.out.1.2]; exact h)
      rw [X.out.2.1, Y.out.2.1] at this
      exact absurd this c
     ·
      exact h
    simp only [Int.toNat_natCast, List.take_length] at hI
    rw [List.take_of_length_le hly, List.take_of_length_le (by omega), X.out.2.1, Y.out.2.1] at hI
    have hzlt := nv_lt hzr
    rw [hzl] at hzlt
    have hb : nv zs = a - b := by
     have hbo : bo = 0 ∨ bo = 1 := by have := HI.out; omega
     rcases hbo with rfl | rfl
     ·
      simp only [Int.toNat_zero, Nat.mul_zero] at hI; omega
     ·
      simp only [Int.toNat_one, Nat.mul_one] at hI; omega
    have Z := Aside0.mk (And.intro hb (show b ≤ a by omega))
    have T2 := Aside0.mk (nat_trim.own zs ad xs.length xs.length wr HBk.out hzr hzl (by have := X.out; have := HL.out; omega) hzlt)
    clear hI hzr hzl hly hzlt hb ci c
    go_wp2_with (first | (go_at_call 96; (with_reducible refine (T2.out).mono ?_); (rintro e w4 ⟨q, rfl, rfl, hc⟩; have RC := Aside0.mk hc; clear hc)))
    go_ret2
    exact ⟨HBl.out, .inr ⟨Z.out.2, q, rfl, by rw [← Z.out.1]; exact RC.out.mono X.out.2.2⟩⟩
end Go.Proofs.YtnmfmiemkcaocaaGreat.Hand
namespace Go.Proofs.YtnmfmiemkcaocaaGreat.Hand
open Go.RowKit Go.Proofs.YtnmfmiemkcaocaaGreatW.PrintWords Go.Proofs.YtnmfmiemkcaocaaGreatW.PrintLast Go.Proofs.YtnmfmiemkcaocaaGreatW.PrintMore
set_option linter.unusedVariables false
set_option linter.unusedSimpArgs false
theorem drop_set_self (zs : List Int) (i : Nat) (v : Int) (h : i < zs.length) : nv ((zs.set i v).drop i) = v.toNat + 4294967296 * nv (zs.drop (i + 1)) := by
 rw [nv_drop _ _ (by rw [List.length_set]; exact h)]
 rw [List.drop_set_of_lt (by omega)]
 congr 2
 simp [List.getD_eq_getElem?_getD, h]
theorem div_step (xs zs : List Int) (i d r : Nat) (hi : i < xs.length) (hz : i < zs.length) (hg : Rg xs) (I : nv (xs.drop (i + 1)) = d * nv (zs.drop (i + 1)) + r) (hr : r < d) (y : Nat) (hy : y = r * 4294967296 + (xs.getD i 0).toNat) :
  nv (xs.drop i) = d * nv ((zs.set i ((y / d : Nat) : Int)).drop i) + y % d ∧ y / d < 4294967296 ∧ y % d < d := by
 have hx := hg.get i
 refine ⟨?_, by rw [Nat.div_lt_iff_lt_mul (by omega)]; have : (r + 1) * 4294967296 ≤ d * 4294967296 := Nat.mul_le_mul_right _ hr; omega, Nat.mod_lt _ (by omega)⟩
 rw [drop_set_self _ _ _ hz, nv_drop _ _ hi, I]
 have hd := Nat.div_add_mod y d
 simp only [Int.toNat_natCast]
 generalize y / d = q at *
 generalize y % d = s at *
 grind
theorem or_high (r x : Nat) (hr : r < 4294967296) (hx : x < 4294967296) : Go.bits .or .u64 ((r : Int) * 4294967296) (x : Int) = (r : Int) * 4294967296 + x :=
 bits_join .u64 64 (by decide) (fun n a b => u64_small n a (by simpa using b)) 32 _ _ (by omega) (by simp) (by simp; omega) (by omega) (by simp; omega) (by simp; omega)
theorem nat_divSmall.run (xs : List Int) (v : Value) (d : Nat) (L : Nat) (w : World) (hv : Rd w v xs) (hg : Rg xs) (hl : xs.length ≤ L) (hL : L ≤ 1000000000) (hd0 : 0 < d) (hd1 : d < 4294967296) :
  Calls Tryz.prog 111 #[v, .int .u32 (d : Int)] w fun e w' => ∃ r, e = .returned (.tuple #[r, .int .u32 ((nv xs % d : Nat) : Int)]) ∧ NC w' r (nv xs / d) L ∧ Below w.heap.size w w' := by
 obtain ⟨A, c, rfl, hc, hr⟩ := hv
 have R := Aside0.mk hr
 obtain ⟨D, hD⟩ : ∃ D : Int, D = (d : Int) := ⟨_, rfl⟩
 rw [← hD]
 have X := Aside0.mk (show Rg xs ∧ xs.length ≤ L ∧ L ≤ 1000000000 ∧ 0 < d ∧ d < 4294967296 ∧ D = (d : Int) from ⟨hg, hl, hL, hd0, hd1, hD⟩)
 have f1 : IntKind.u64.wrap D = D := u64_small _ (by omega) (by omega)
 have f2 : (D = 0) = False := eq_false (by omega)
 have f3 : (D == 0) = false := by rw [beq_eq_false_iff_ne]; omega
 obtain ⟨j0, hj0⟩ : ∃ j, IntKind.i64.wrap ((xs.length : Int) - 1) = j := ⟨_, rfl⟩
 have J := Aside0.mk (show j0 = (xs.length : Int) - 1 by rw [← hj0, i64_w]; unfold wrap64; omega)
 clear hr hg hl hL hd0 hd1 hD
 go_enter Tryz.func111, Tryz.ntmps111
 go_wp2_with (first | ((with_reducible refine gate_dst (N := 11) rfl ?_); refine ev_make rfl _ _ rfl (xs.length : Int) (xs.length : Int) xs.length xs.length rfl rfl rfl rfl (Nat.le_refl _) (by have := X.out.2; omega) ?_; intro ad w3 hb1 hb2 hb3; have B := Aside0.mk hb1; have HB := Aside0.mk hb2; have HA := Aside0.mk hb3; clear hb1 hb2 hb3))
 go_loopg [7, 8] xs.length (fun kq v7 v8 w' => ∃ (r i : Int) (zs : List Int), v7 = .int .u64 r ∧ v8 = .int .i64 i ∧ Aside0 (i = (kq : Int) - 1 ∧ kq ≤ xs.length ∧ 0 ≤ r) ∧ Aside0 (nv (xs.drop kq) = d * nv (zs.drop kq) + r.toNat ∧ r.toNat < d ∧ Rg zs ∧ zs.length = xs.length) ∧ Aside0 (Blk w' ad zs) ∧ Aside0 (Below w.heap.size w w'))
 case atStart => exact ⟨0, j0, _, rfl, rfl, ⟨J.out, Nat.le_refl _, by omega⟩, ⟨by rw [List.drop_length, List.drop_of_length_le (by rw [List.length_replicate]; exact Nat.le_refl _)]; simp [nv], by have := X.out; simp only [Int.toNat_zero]; omega, Rg.zeros _, List.length_replicate⟩, ⟨B.out⟩, ⟨HB.out⟩⟩
 case round =>
  obtain ⟨r, i, zs, rfl, rfl, HI, HN, HBk, HBl⟩ := hrel
  by_cases ci : 0 ≤ i
  ·
   have d1 : decide (0 ≤ i) = true := decide_eq_true ci
   obtain ⟨g1, hk⟩ : ∃ g1, gk = g1 + 1 := ⟨gk - 1, by have := HI.out; omega⟩
   subst hk
   have ci2 : i < (xs.length : Int) := by have := HI.out; omega
   obtain ⟨ad1, ea, hx⟩ := Kd.at_int R.out i ci ci2
   cases ea
   replace hx := (HBl.out.cell (World.block_lt_of_cell? w _ hx)).trans hx
   obtain ⟨p, hpe⟩ : ∃ p, rd xs i = p := ⟨_, rfl⟩
   rw [hpe] at hx
   have hp0 : 0 ≤ p ∧ p < 4294967296 := by rw [← hpe]; exact X.out.1.rd i
   have hw1 : IntKind.u64.wrap p = p := u64_small p hp0.1 (by omega)
   have hcl := HBk.out.cell i ci (by have := HN.out.2.2.2; omega)
   have hfz := HBk.out.frozen i.toNat
   obtain ⟨sh, hsh⟩ : ∃ sh, IntKind.u64.wrap (r * 4294967296) = sh := ⟨_, rfl⟩
   obtain ⟨y, hy⟩ : ∃ y, Go.bits .or .u64 sh p = y := ⟨_, rfl⟩
   obtain ⟨i1, hi1⟩ : ∃ i1, IntKind.i64.wrap (i - 1) = i1 := ⟨_, rfl⟩
   have E := Aside0.mk (show 0 ≤ i ∧ i < (xs.length : Int) ∧ 0 ≤ p ∧ p < 4294967296 ∧ p = xs.getD i.toNat 0 from ⟨ci, ci2, hp0.1, hp0.2, hpe.symm⟩)
   clear hp0 hpe ci ci2
   have p1 := eq_true E.out.1
   have q1 := eq_true E.out.2.1
   go_wp2
   obtain ⟨ci, ci2, hp0, hp1, hpe⟩ := E.out
   obtain ⟨hI, hrd, hzr, hzl⟩ := HN.out
   obtain ⟨hi, hkl, hr0⟩ := HI.out
   obtain ⟨hg, hl, hL, hd0, hd1, hD⟩ := X.out
   have ei : i.toNat = g1 := by omega
   have ei1 : i1 = i - 1 := by rw [← hi1, i64_w]; unfold wrap64; omega
   have esh : sh = r * 4294967296 := by rw [← hsh]; exact u64_small _ (by omega) (by omega)
   obtain ⟨Y, hY⟩ : ∃ Y, Y = r.toNat * 4294967296 + p.toNat := ⟨_, rfl⟩
   have hor := or_high r.toNat p.toNat (by omega) (by omega)
   rw [Int.toNat_of_nonneg hr0, Int.toNat_of_nonneg hp0] at hor
   have eY : y = (Y : Int) := by rw [← hy, esh, hor]; omega
   subst eY
   subst hD
   rw [show Int.tdiv (Y : Int) (d : Int) = ((Y / d : Nat) : Int) from rfl, show Int.tmod (Y : Int) (d : Int) = ((Y % d : Nat) : Int) from rfl]
   rw [ei] at hpe
   have hst := div_step xs zs g1 d r.toNat (by omega) (by omega) hg hI hrd Y (by rw [← hpe]; exact hY)
   obtain ⟨q, hq⟩ : ∃ q, Y / d = q := ⟨_, rfl⟩
   obtain ⟨s, hs⟩ : ∃ s, Y % d = s := ⟨_, rfl⟩
   rw [hq, hs] at hst ⊢
   rw [u64_small (q : Int) (by omega) (by omega), show ((q : Int) % 4294967296) = (q : Int) by omega, ei]
   go_roundg g1
   case measure => omega
   case rel => exact ⟨_, i1, _, rfl, rfl, ⟨by omega, by omega, by omega⟩, ⟨by rw [Int.toNat_natCast]; exact hst.1, by rw [Int.toNat_natCast]; exact hst.2.2, hzr.set _ (by omega) (by omega), by rw [List.length_set]; exact hzl⟩, ⟨HBk.out.set _ _⟩, ⟨below_setA HBl.out HA.out _ _⟩⟩
  ·
   have d1 : decide (0 ≤ i) = false := decide_eq_false ci
   have h0 : gk = 0 := by have := HI.out; omega
   subst h0
   obtain ⟨hI, hrd, hzr, hzl⟩ := HN.out
   simp only [List.drop_zero] at hI
   have hr0 := HI.out.2.2
   have hd1 := X.out.2.2.2.2.1
   have hq : nv xs / d = nv zs := by rw [hI, Nat.mul_add_div (by omega), Nat.div_eq_of_lt hrd, Nat.add_zero]
   have hm : nv xs % d = r.toNat := by rw [hI, Nat.mul_add_mod, Nat.mod_eq_of_lt hrd]
   have Z := Aside0.mk (show r % 4294967296 = ((nv xs % d : Nat) : Int) ∧ nv xs / d = nv zs by refine ⟨by rw [hm]; omega, hq⟩)
   have T := Aside0.mk (nat_trim.own zs ad xs.length xs.length wr HBk.out hzr hzl (by have := X.out; omega) (by have := nv_lt hzr; rw [hzl] at this; exact this))
   clear hI hrd hzr hzl hr0 hd1 hq hm ci
   go_wp2_with (first | (go_at_call 96; (with_reducible refine (T.out).mono ?_); (rintro e w4 ⟨q, rfl, rfl, hc⟩; have RC := Aside0.mk hc; clear hc)))
   go_ret2
   exact ⟨q, by rw [← Z.out.1]; rfl, by rw [Z.out.2]; exact RC.out.mono X.out.2.1, HBl.out⟩
end Go.Proofs.YtnmfmiemkcaocaaGreat.Hand
namespace Go.Proofs.YtnmfmiemkcaocaaGreat.Hand
open Go.RowKit Go.Proofs.YtnmfmiemkcaocaaGreatW.PrintWords Go.Proofs.YtnmfmiemkcaocaaGreatW.PrintLast Go.Proofs.YtnmfmiemkcaocaaGreatW.PrintMore
set_option linter.unusedVariables false
set_option linter.unusedSimpArgs false
theorem shr_limb (n x x' : Nat) (hn : n < 32) (hx : x < 4294967296) : ((x + 4294967296 * x') / 2 ^ n) % 4294967296 * 2 ^ n + x % 2 ^ n = x + 4294967296 * (x' % 2 ^ n) := by
 obtain ⟨k, hk⟩ : ∃ k, 4294967296 = 2 ^ n * k := ⟨2 ^ (32 - n), by rw [← Nat.pow_add, show n + (32 - n) = 32 by omega]⟩
 obtain ⟨m, hm⟩ : ∃ m, m = 2 ^ n := ⟨_, rfl⟩
 have hmp : 0 < m := by rw [hm]; exact Nat.pow_pos (by omega)
 rw [← hm] at hk ⊢
 have e1 : (x + 4294967296 * x') / m = x / m + k * x' := by
  rw [hk, Nat.mul_assoc, Nat.add_mul_div_left _ _ hmp]
 have h1 := Nat.div_add_mod x m
 have h2 := Nat.div_add_mod x' m
 have hl1 := Nat.mod_lt x hmp
 have hl2 := Nat.mod_lt x' hmp
 have hxm : x / m < k := by rw [Nat.div_lt_iff_lt_mul hmp]; rw [Nat.mul_comm, ← hk]; exact hx
 generalize x / m = a at *
 generalize x % m = b at *
 generalize x' / m = c at *
 generalize x' % m = d at *
 have e2 : a + k * x' = (a + k * d) + 4294967296 * c := by rw [← h2, hk]; grind
 have hlt : a + k * d < 4294967296 := by
  have : k * (d + 1) ≤ k * m := Nat.mul_le_mul_left _ hl2
  rw [Nat.mul_add, Nat.mul_one, Nat.mul_comm k m, ← hk] at this
  omega
 rw [e1, e2, Nat.add_mul_mod_self_left, Nat.mod_eq_of_lt hlt]
 have e3 : 4294967296 * d = m * k * d := by rw [← hk]
 rw [e3, ← h1]
 grind
theorem shr_step (xs zs : List Int) (i n : Nat) (c0 : Nat) (hn : n < 32) (hg : Rg xs) (hi : i < xs.length) (hz : i < zs.length) (I : 2 ^ n * nv (zs.take i) + c0 = nv (xs.take i) + pw i * ((xs.getD i 0).toNat % 2 ^ n)) (r : Nat) (hr : r = (((xs.getD i 0).toNat + 4294967296 * (xs.getD (i + 1) 0).toNat) / 2 ^ n) % 4294967296) :
  2 ^ n * nv ((zs.set i (r : Int)).take (i + 1)) + c0 = nv (xs.take (i + 1)) + pw (i + 1) * ((xs.getD (i + 1) 0).toNat % 2 ^ n) := by
 have hx := hg.get i
 have e := shr_limb n (xs.getD i 0).toNat (xs.getD (i + 1) 0).toNat hn (by omega)
 rw [← hr] at e
 rw [take_set_self _ _ _ hz, nv_take_succ _ _ hi, pw_succ]
 simp only [Int.toNat_natCast]
 generalize (xs.getD i 0).toNat % 2 ^ n = b at *
 generalize (xs.getD (i + 1) 0).toNat % 2 ^ n = d at *
 generalize 2 ^ n = m at *
 have e4 : pw i * (r * m) + pw i * b = pw i * (xs.getD i 0).toNat + pw i * (4294967296 * d) := by rw [← Nat.mul_add, e, Nat.mul_add]
 grind
theorem u64_fit (n : Int) (a : 0 ≤ n) (b : n < 2 ^ 64) : IntKind.u64.wrap n = n := u64_small n a (by simpa using b)
theorem or_low32 (x y : Nat) (hx : x < 4294967296) (hy : y < 4294967296) : Go.bits .or .u64 (x : Int) ((y : Int) * 4294967296) = (x : Int) + 4294967296 * y := by
 have e : ((y : Int) * 4294967296) = ((y * 2 ^ 32 : Nat) : Int) := by rw [Int.natCast_mul, show ((2 ^ 32 : Nat) : Int) = 4294967296 from by decide]
 rw [e, (bits_nat .u64 64 (by decide) u64_fit x (y * 2 ^ 32) (by omega) (by omega)).2]
 rw [Nat.or_comm, Nat.mul_comm, ← Nat.two_pow_add_eq_or_of_lt (show x < 2 ^ 32 from hx)]
 omega
theorem nat_shiftDown.run (xs : List Int) (v : Value) (n L : Nat) (w : World) (hv : Rd w v xs) (hg : Rg xs) (hn : n < 32) (hl : xs.length ≤ L) (hL : L ≤ 1000000000) :
  Calls Tryz.prog 117 #[v, .int .u64 (n : Int)] w fun e w' => ∃ r, e = .returned r ∧ NC w' r (nv xs / 2 ^ n) L ∧ Below w.heap.size w w' := by
 obtain ⟨A, c, rfl, hc, hr⟩ := hv
 have R := Aside0.mk hr
 have X := Aside0.mk (show Rg xs ∧ n < 32 ∧ xs.length ≤ L ∧ L ≤ 1000000000 from ⟨hg, hn, hl, hL⟩)
 clear hr hg hn hl hL
 go_enter Tryz.func117, Tryz.ntmps117
 go_wp2_with (first | ((with_reducible refine gate_dst (N := 10) rfl ?_); refine ev_make rfl _ _ rfl (xs.length : Int) (xs.length : Int) xs.length xs.length rfl rfl rfl rfl (Nat.le_refl _) (by have := X.out; omega) ?_; intro ad w3 hb1 hb2 hb3; have B := Aside0.mk hb1; have HB := Aside0.mk hb2; have HA := Aside0.mk hb3; clear hb1 hb2 hb3))
 go_loopg [13] xs.length (fun kq v13 w' => ∃ (i : Int) (zs : List Int), v13 = .int .i64 i ∧ Aside0 (i + kq = (xs.length : Int) ∧ kq ≤ xs.length) ∧ Aside0 (2 ^ n * nv (zs.take i.toNat) + (xs.getD 0 0).toNat % 2 ^ n = nv (xs.take i.toNat) + pw i.toNat * ((xs.getD i.toNat 0).toNat % 2 ^ n) ∧ Rg zs ∧ zs.length = xs.length) ∧ Aside0 (Blk w' ad zs) ∧ Aside0 (Below w.heap.size w w'))
 case atStart => exact ⟨0, _, rfl, ⟨by omega, by omega⟩, ⟨by simp [nv, pw_zero], Rg.zeros _, List.length_replicate⟩, ⟨B.out⟩, ⟨HB.out⟩⟩
 case round =>
  obtain ⟨i, zs, rfl, HI, HN, HBk, HBl⟩ := hrel
  by_cases ci : i < (xs.length : Int)
  ·
   have d1 : decide (i < (xs.length : Int)) = true := decide_eq_true ci
   have p1 : 0 ≤ i := by have := HI.out; omega
   obtain ⟨g1, hk⟩ : ∃ g1, gk = g1 + 1 := ⟨gk - 1, by have := HI.out; omega⟩
   subst hk
   obtain ⟨ad1, ea, hx⟩ := Kd.at_int R.out i p1 ci
   cases ea
   replace hx := (HBl.out.cell (World.block_lt_of_cell? w _ hx)).trans hx
   obtain ⟨p, hpe⟩ : ∃ p, rd xs i = p := ⟨_, rfl⟩
   rw [hpe] at hx
   have hp0 : 0 ≤ p ∧ p < 4294967296 := by rw [← hpe]; exact X.out.1.rd i
   have hw1 : IntKind.u64.wrap p = p := u64_small p hp0.1 (by omega)
   have hcl := HBk.out.cell i p1 (by have := HN.out.2.2; omega)
   have hfz := HBk.out.frozen i.toNat
   have hmin : min n 64 = n := by have := X.out.2.1; omega
   obtain ⟨i1, hi1⟩ : ∃ i1, IntKind.i64.wrap (i + 1) = i1 := ⟨_, rfl⟩
   have ei1 : i1 = i + 1 := by have := X.out; rw [← hi1, i64_w]; unfold wrap64; omega
   by_cases cj : i1 < (xs.length : Int)
   ·
    have d2 : decide (i1 < (xs.length : Int)) = true := decide_eq_true cj
    have p2 : 0 ≤ i1 := by omega
    obtain ⟨ad2, ea2, hy⟩ := Kd.at_int R.out i1 p2 cj
    cases ea2
    replace hy := (HBl.out.cell (World.block_lt_of_cell? w _ hy)).trans hy
    obtain ⟨q, hqe⟩ : ∃ q, rd xs i1 = q := ⟨_, rfl⟩
    rw [hqe] at hy
    have hq0 : 0 ≤ q ∧ q < 4294967296 := by rw [← hqe]; exact X.out.1.rd i1
    have hw2 : IntKind.u64.wrap q = q := u64_small q hq0.1 (by omega)
    obtain ⟨sh, hsh⟩ : ∃ sh, IntKind.u64.wrap (q * 4294967296) = sh := ⟨_, rfl⟩
    obtain ⟨y, hy2⟩ : ∃ y, Go.bits .or .u64 p sh = y := ⟨_, rfl⟩
    obtain ⟨z, hz⟩ : ∃ z, y / 2 ^ n = z := ⟨_, rfl⟩
    obtain ⟨r, hr⟩ : ∃ r, Go.bits .and .u64 z 4294967295 = r := ⟨_, rfl⟩
    have E1 := Aside0.mk ei1
    have E2 := Aside0.mk (And.intro hp0 (And.intro hq0 (And.intro hpe hqe)))
    clear hp0 hq0 ei1 hpe hqe
    have P1 := Aside0.mk p1
    have Q1 := Aside0.mk ci
    have Q2 := Aside0.mk cj
    clear ci cj
    have q1 := eq_true Q1.out
    have q2 := eq_true Q2.out
    replace p1 := eq_true p1
    replace p2 := eq_true p2
    go_wp2
    obtain ⟨hp0, hq0, hpe, hqe⟩ := E2.out
    obtain ⟨hg, hn, hl, hL⟩ := X.out
    obtain ⟨hI, hzr, hzl⟩ := HN.out
    have hi := HI.out
    have ei1 := E1.out
    have hP1 := P1.out
    have hQ1 := Q1.out
    have ei2 : i1.toNat = i.toNat + 1 := by omega
    have esh : sh = q * 4294967296 := by rw [← hsh]; exact u64_small _ (by omega) (by omega)
    have hor := or_low32 p.toNat q.toNat (by omega) (by omega)
    rw [Int.toNat_of_nonneg hp0.1, Int.toNat_of_nonneg hq0.1] at hor
    obtain ⟨Y, hY⟩ : ∃ Y, Y = p.toNat + 4294967296 * q.toNat := ⟨_, rfl⟩
    have eY : y = (Y : Int) := by rw [← hy2, esh, hor]; omega
    have hpp : (0 : Nat) < 2 ^ n := Nat.pow_pos (by omega)
    have ez : z = ((Y / 2 ^ n : Nat) : Int) := by rw [← hz, eY, Int.natCast_ediv, Int.natCast_pow]; rfl
    have hzle : Y / 2 ^ n ≤ Y := Nat.div_le_self _ _
    obtain ⟨Z, hZ⟩ : ∃ Z, Y / 2 ^ n = Z := ⟨_, rfl⟩
    rw [hZ] at ez hzle
    have hr2 : r % 4294967296 = ((Z % 4294967296 : Nat) : Int) := by rw [← hr, and_low _ (by omega) (by omega), ez]; omega
    have hst := shr_step xs zs i.toNat n _ hn hg (by omega) (by omega) hI (Z % 4294967296) (by
     have h1 : p = xs.getD i.toNat 0 := hpe.symm
     have h2 : q = xs.getD (i.toNat + 1) 0 := by rw [← ei2]; exact hqe.symm
     rw [← h1, ← h2, ← hY, hZ])
    rw [hr2]
    go_roundg g1
    case measure => omega
    case rel => exact ⟨i1, _, rfl, ⟨by omega, by omega⟩, ⟨by rw [ei2]; exact hst, hzr.set _ (by omega) (by omega), by rw [List.length_set]; exact hzl⟩, ⟨HBk.out.set _ _⟩, ⟨below_setA HBl.out HA.out _ _⟩⟩
   ·
    have d2 : decide (i1 < (xs.length : Int)) = false := decide_eq_false cj
    have hqe : xs.getD (i.toNat + 1) 0 = 0 := by rw [List.getD_eq_getElem?_getD, List.getElem?_eq_none (by omega)]; rfl
    obtain ⟨z, hz⟩ : ∃ z, p / 2 ^ n = z := ⟨_, rfl⟩
    obtain ⟨r, hr⟩ : ∃ r, Go.bits .and .u64 z 4294967295 = r := ⟨_, rfl⟩
    have P1 := Aside0.mk p1
    have Q1 := Aside0.mk ci
    have E1 := Aside0.mk ei1
    have E2 := Aside0.mk (And.intro hp0 (And.intro hqe hpe))
    clear ci cj hp0 ei1 hpe hqe
    have q1 := eq_true Q1.out
    replace p1 := eq_true p1
    go_wp2
    obtain ⟨hp0, hqe, hpe⟩ := E2.out
    obtain ⟨hg, hn, hl, hL⟩ := X.out
    obtain ⟨hI, hzr, hzl⟩ := HN.out
    have hi := HI.out
    have ei1 := E1.out
    have hP1 := P1.out
    have hQ1 := Q1.out
    have ei2 : i1.toNat = i.toNat + 1 := by omega
    obtain ⟨Y, hY⟩ : ∃ Y, Y = p.toNat + 4294967296 * (0 : Int).toNat := ⟨_, rfl⟩
    have eY : p = (Y : Int) := by rw [hY]; simp only [Int.toNat_zero, Nat.mul_zero, Nat.add_zero]; omega
    have ez : z = ((Y / 2 ^ n : Nat) : Int) := by rw [← hz, eY, Int.natCast_ediv, Int.natCast_pow]; rfl
    have hzle : Y / 2 ^ n ≤ Y := Nat.div_le_self _ _
    obtain ⟨Z, hZ⟩ : ∃ Z, Y / 2 ^ n = Z := ⟨_, rfl⟩
    rw [hZ] at ez hzle
    have hr2 : r % 4294967296 = ((Z % 4294967296 : Nat) : Int) := by rw [← hr, and_low _ (by omega) (by omega), ez]; omega
    have hst := shr_step xs zs i.toNat n _ hn hg (by omega) (by omega) hI (Z % 4294967296) (by
     have h1 : p = xs.getD i.toNat 0 := hpe.symm
     rw [← h1, hqe, ← hY, hZ])
    rw [hr2]
    go_roundg g1
    case measure => omega
    case rel => exact ⟨i1, _, rfl, ⟨by omega, by omega⟩, ⟨by rw [ei2]; exact hst, hzr.set _ (by omega) (by omega), by rw [List.length_set]; exact hzl⟩, ⟨HBk.out.set _ _⟩, ⟨below_setA HBl.out HA.out _ _⟩⟩
  ·
   have d1 : decide (i < (xs.length : Int)) = false := decide_eq_false ci
   have ei : i = (xs.length : Int) := by have := HI.out; omega
   subst ei
   obtain ⟨hI, hzr, hzl⟩ := HN.out
   simp only [Int.toNat_natCast, List.take_length] at hI
   rw [List.take_of_length_le (by omega), List.getD_eq_getElem?_getD (i := xs.length), List.getElem?_eq_none (Nat.le_refl _)] at hI
   simp only [Option.getD_none, Int.toNat_zero, Nat.zero_mod, Nat.mul_zero, Nat.add_zero] at hI
   have hq : nv xs / 2 ^ n = nv zs := by rw [← hI, Nat.mul_add_div (Nat.pow_pos (by omega)), Nat.div_eq_of_lt (Nat.mod_lt _ (Nat.pow_pos (by omega))), Nat.add_zero]
   have Z := Aside0.mk hq
   have T := Aside0.mk (nat_trim.own zs ad xs.length xs.length wr HBk.out hzr hzl (by have := X.out; omega) (by have := nv_lt hzr; rw [hzl] at this; exact this))
   clear hI hzr hzl hq ci
   go_wp2_with (first | (go_at_call 96; (with_reducible refine (T.out).mono ?_); (rintro e w4 ⟨q, rfl, rfl, hc⟩; have RC := Aside0.mk hc; clear hc)))
   go_ret
   exact ⟨q, rfl, by rw [Z.out]; exact RC.out.mono X.out.2.2.1, HBl.out⟩
end Go.Proofs.YtnmfmiemkcaocaaGreat.Hand
