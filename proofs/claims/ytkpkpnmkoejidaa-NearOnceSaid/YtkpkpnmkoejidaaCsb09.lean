/-
  Contracts of Go's slices.Sort, second part: turning round, medians, how many bits, patterns broken, the pivot.
-/
import Derived.Test.YtkpkpnmkoejidaaVexBB
import Derived.Test.YtkpkpnmkoejidaaTab09
import Derived.Test.YtkpkpnmkoejidaaXs09
import Derived.Test.YtkpkpnmkoejidaaCsa09
set_option linter.unusedVariables false
set_option linter.unusedSimpArgs false
namespace Go.Vex.Sort
open Go.Proofs

section
variable {g h : Hp} {q n : Nat} {fr bk : List V} {d : Int → E} {f : Bool} {a b : Int}

theorem rev_spec (s : SS en g q fr bk n d h) (h0 : 0 ≤ a) (hab : a ≤ b) (hb : b ≤ n) (hn : (n : Int) ≤ 2305843009213693952) :
    XCalls Try.prog 32 [.slc (some (q, fr.length)) n f, .int .i64 a, .int .i64 b] h fun v h' => v = .tup [] ∧ ∃ d', SS en g q fr bk n d' h' ∧ Sw a b d d' := by
  apply x32; unfold X32
  simp (disch := omega) only [wr, eq_self, true_and, and_true, cond_true, cond_false, onS, Bool.not_true, Bool.not_false, Int.toNat_natCast]
  refine ⟨fun vs h' => match vs with
    | [.int _ i, .int _ j] => a ≤ i ∧ i ≤ b ∧ -1 ≤ j ∧ j < b ∧ ∃ d', SS en g q fr bk n d' h' ∧ Sw a b d d'
    | _ => False, fun vs _ => match vs with
    | [.int _ i, .int _ j] => (j - i).toNat
    | _ => 0, ⟨by omega, by omega, by omega, by omega, d, s, .refl⟩, ?_⟩
  rintro bs i j h1 ⟨hi, hib, hj1, hj, d1, s1, w1⟩
  cases hij : ltI i j with
  | false => exact ⟨d1, s1, w1⟩
  | true =>
    rw [ltI_eq, decide_eq_true_eq] at hij
    obtain ⟨g1, g2, e1, e2, s3⟩ := s1.swap (i := i) (j := j) (by omega) (by omega) (by omega) (by omega)
    simp (disch := omega) only [wr, eq_self, true_and, and_true, cond_true, cond_false, onS, Bool.not_true, Bool.not_false, Int.toNat_natCast]
    refine ⟨⟨by omega, by omega⟩, d1 j, s1.ld (by omega) (by omega), ⟨by omega, by omega⟩, d1 i, s1.ld (by omega) (by omega), ⟨by omega, by omega⟩, g1, e1, ⟨by omega, by omega⟩, g2, e2, ⟨by omega, by omega, by omega, by omega, _, s3, w1.step i j (by omega) (by omega) (by omega) (by omega)⟩, by omega⟩

def cell (m : Int) : O := .row [.int .i64 m] 1 false

theorem ord2_spec {p : Nat} {m : Int} (s : SS en g q fr bk n d h) (hp : h.get p = some (cell m)) (hpq : p ≠ q) (hpg : g.next ≤ p) (ha : 0 ≤ a) (han : a < n) (hb : 0 ≤ b) (hbn : b < n) :
    XCalls Try.prog 45 [.slc (some (q, fr.length)) n f, .int .i64 a, .int .i64 b, .ptr (some (p, 0))] h fun v h' => (v = .tup [.int .i64 a, .int .i64 b] ∨ v = .tup [.int .i64 b, .int .i64 a]) ∧ SS en g q fr bk n d h' ∧ ∃ m', h'.get p = some (cell m') := by
  apply x45; unfold X45
  refine ⟨⟨hb, hbn⟩, d b, s.ld hb hbn, ⟨ha, han⟩, d a, s.ld ha han, ?_⟩
  refine (less_spec _ _).mono ?_
  rintro _ _ ⟨rfl, rfl⟩
  refine ⟨_, rfl, ?_⟩
  cases hl : lt (d b) (d a) with
  | false => exact ⟨.inl rfl, s, m, hp⟩
  | true =>
    refine ⟨m, by rw [Hp.ld_of hp]; rfl, _, Hp.st_of hp (Nat.le_of_ble_eq_true rfl), .inr rfl, s.beside hp hpq hpg, IntKind.i64.wrap (m + 1), ?_⟩
    rw [Hp.get_set_self]; rfl

theorem med_spec {p : Nat} {m c : Int} (s : SS en g q fr bk n d h) (hp : h.get p = some (cell m)) (hpq : p ≠ q) (hpg : g.next ≤ p) (ha : 0 ≤ a) (han : a < n) (hb : 0 ≤ b) (hbn : b < n) (hc : 0 ≤ c) (hcn : c < n) :
    XCalls Try.prog 43 [.slc (some (q, fr.length)) n f, .int .i64 a, .int .i64 b, .int .i64 c, .ptr (some (p, 0))] h fun v h' => (∃ i, v = .int .i64 i ∧ (i = a ∨ i = b ∨ i = c)) ∧ SS en g q fr bk n d h' ∧ ∃ m', h'.get p = some (cell m') := by
  apply x43; unfold X43
  refine (ord2_spec s hp hpq hpg ha han hb hbn).mono ?_
  rintro v h1 ⟨hv, s1, m1, hp1⟩
  obtain ⟨i, j, rfl, hi, hj⟩ : ∃ i j, v = .tup [.int .i64 i, .int .i64 j] ∧ (i = a ∨ i = b) ∧ (j = a ∨ j = b) := by
    rcases hv with rfl | rfl
    · exact ⟨a, b, rfl, .inl rfl, .inr rfl⟩
    · exact ⟨b, a, rfl, .inr rfl, .inl rfl⟩
  refine ⟨_, _, rfl, ?_⟩
  refine (ord2_spec s1 hp1 hpq hpg (by omega) (by omega) hc hcn).mono ?_
  rintro v h2 ⟨hv, s2, m2, hp2⟩
  obtain ⟨k, l, rfl, hk, hl⟩ : ∃ k l, v = .tup [.int .i64 k, .int .i64 l] ∧ (k = j ∨ k = c) ∧ (l = j ∨ l = c) := by
    rcases hv with rfl | rfl
    · exact ⟨j, c, rfl, .inl rfl, .inr rfl⟩
    · exact ⟨c, j, rfl, .inr rfl, .inl rfl⟩
  refine ⟨_, _, rfl, ?_⟩
  refine (ord2_spec s2 hp2 hpq hpg (by omega) (by omega) (by omega) (by omega)).mono ?_
  rintro v h3 ⟨hv, s3, m3, hp3⟩
  obtain ⟨x, y, rfl, hx, hy⟩ : ∃ x y, v = .tup [.int .i64 x, .int .i64 y] ∧ (x = i ∨ x = k) ∧ (y = i ∨ y = k) := by
    rcases hv with rfl | rfl
    · exact ⟨i, k, rfl, .inl rfl, .inr rfl⟩
    · exact ⟨k, i, rfl, .inr rfl, .inl rfl⟩
  exact ⟨_, _, rfl, ⟨y, rfl, by omega⟩, s3, m3, hp3⟩

theorem meda_spec {p : Nat} {m : Int} (s : SS en g q fr bk n d h) (hp : h.get p = some (cell m)) (hpq : p ≠ q) (hpg : g.next ≤ p) (ha : 1 ≤ a) (han : a + 1 < n) (hn : (n : Int) ≤ 2305843009213693952) :
    XCalls Try.prog 42 [.slc (some (q, fr.length)) n f, .int .i64 a, .ptr (some (p, 0))] h fun v h' => (∃ i, v = .int .i64 i ∧ a - 1 ≤ i ∧ i ≤ a + 1) ∧ SS en g q fr bk n d h' ∧ ∃ m', h'.get p = some (cell m') := by
  apply x42; unfold X42
  simp (disch := omega) only [wr, eq_self, true_and, and_true, cond_true, cond_false, onS, Bool.not_true, Bool.not_false, Int.toNat_natCast]
  refine (med_spec s hp hpq hpg (by omega) (by omega) (by omega) (by omega) (by omega) (by omega)).mono ?_
  rintro v h1 ⟨⟨i, rfl, hi⟩, s1, m1, hp1⟩
  exact ⟨_, rfl, ⟨i, rfl, by omega⟩, s1, m1, hp1⟩

/-! ### bits -/

def tabOK (k : Nat) : Bool := match bitTab.get?Internal k with
  | some b => Nat.ble b.toNat 8 && (Nat.beq k 0 || Nat.ble (2 ^ b.toNat) (2 * k))
  | none => false

theorem tab_ok : ((List.range 256).all tabOK) = true := by decide +kernel

theorem tab_get {k : Nat} (hk : k < 256) : ∃ b, bitTab.get?Internal k = some b ∧ b.toNat ≤ 8 ∧ (1 ≤ k → 2 ^ b.toNat ≤ 2 * k) := by
  have h := List.all_eq_true.1 tab_ok k (by simp [hk])
  unfold tabOK at h
  split at h
  · rename_i b hb
    simp only [Bool.and_eq_true, ble_eq', decide_eq_true_eq, Bool.or_eq_true, nbeq] at h
    exact ⟨b, hb, h.1, fun h1 => by rcases h.2 with h2 | h2 <;> omega⟩
  · cases h

theorem u8w {x : Int} (h0 : 0 ≤ x) (h1 : x < 256) : IntKind.u8.wrap x = x := wrap_of (by simp [IntKind.min, IntKind.max, IntKind.signed, IntKind.bits]; omega)
theorem u64w {x : Int} (h0 : 0 ≤ x) (h1 : x < 18446744073709551616) : IntKind.u64.wrap x = x := wrap_of (by simp [IntKind.min, IntKind.max, IntKind.signed, IntKind.bits]; omega)

theorem pow_step {m k : Nat} {x y t : Int} (hx : y * 2 ^ m ≤ x) (hk : t * 2 ^ k ≤ y) {b : Nat} (hb : (2 : Int) ^ b ≤ 2 * t) : (2 : Int) ^ (m + k + b) ≤ 2 * x := by
  have p1 : (0 : Int) ≤ 2 ^ m := Int.pow_nonneg (by decide)
  have p2 : (0 : Int) ≤ 2 ^ k := Int.pow_nonneg (by decide)
  rw [Int.pow_add, Int.pow_add]
  have h1 := Int.mul_le_mul_of_nonneg_left hb (Int.mul_nonneg p1 p2)
  have h2 := Int.mul_le_mul_of_nonneg_left hk p1
  have h3 : (2 : Int) ^ m * 2 ^ k * (2 * t) = 2 * (2 ^ m * (t * 2 ^ k)) := by
    rw [Int.mul_comm 2 t, ← Int.mul_assoc, Int.mul_comm _ 2, Int.mul_assoc (2 ^ m), Int.mul_comm (2 ^ k) t]
  have h4 : (2 : Int) ^ m * y = y * 2 ^ m := Int.mul_comm _ _
  omega

theorem len64_spec {x : Int} (h0 : 0 ≤ x) (h1 : x < 18446744073709551616) :
    XCalls Try.prog 38 [.int .u64 x] h fun v h' => h' = h ∧ ∃ m : Nat, v = .int .i64 m ∧ m ≤ 64 ∧ (1 ≤ x → (2 : Int) ^ m ≤ 2 * x) := by
  apply x38; unfold X38
  refine ⟨fun vs h' => match vs with
    | [.int _ y, .int _ m] => h' = h ∧ 0 ≤ y ∧ y < 4294967296 ∧ (m = 0 ∨ m = 32) ∧ y * 2 ^ m.toNat ≤ x ∧ (1 ≤ x → 1 ≤ y)
    | _ => False, ?_, ?_⟩
  · cases hc : ltI x 4294967296 with
    | true =>
      rw [ltI_eq, decide_eq_true_eq] at hc
      exact ⟨rfl, rfl, h0, hc, .inl rfl, by simp, fun h => h⟩
    | false =>
      rw [ltI_eq, decide_eq_false_iff_not] at hc
      have e : x.fdiv (2 ^ min (Int.toNat 32) IntKind.u64.bits) = x / 4294967296 := by
        rw [Int.fdiv_eq_ediv_of_nonneg _ (by decide)]; rfl
      rw [e]
      exact ⟨by decide, rfl, rfl, by omega, by omega, .inr rfl, by show _ * (2 : Int) ^ 32 ≤ x; omega, fun h => by omega⟩
  rintro bs1 y m h1' ⟨rfl, hy0, hy1, hm, hyx, hyp⟩
  refine ⟨fun vs h' => match vs with
    | [.int _ z, .int _ k] => h' = h1' ∧ 0 ≤ z ∧ z < 65536 ∧ 0 ≤ k ∧ k ≤ 48 ∧ z * 2 ^ k.toNat ≤ x ∧ (1 ≤ x → 1 ≤ z)
    | _ => False, ?_, ?_⟩
  · cases hc : ltI y 65536 with
    | true =>
      rw [ltI_eq, decide_eq_true_eq] at hc
      exact ⟨rfl, rfl, hy0, hc, by omega, by omega, hyx, hyp⟩
    | false =>
      rw [ltI_eq, decide_eq_false_iff_not] at hc
      have e : y.fdiv (2 ^ min (Int.toNat 16) IntKind.u64.bits) = y / 65536 := by
        rw [Int.fdiv_eq_ediv_of_nonneg _ (by decide)]; rfl
      rw [e, wr (by omega) (by omega)]
      refine ⟨by decide, rfl, rfl, by omega, by omega, by omega, by omega, ?_, fun h => by omega⟩
      rcases hm with rfl | rfl
      · simp at hyx; show _ * (2 : Int) ^ 16 ≤ x; omega
      · have hyx : y * (2 : Int) ^ 32 ≤ x := hyx
        show _ * (2 : Int) ^ 48 ≤ x; omega
  rintro bs2 z k h2 ⟨rfl, hz0, hz1, hk0, hk1, hzx, hzp⟩
  obtain ⟨k, rfl⟩ := Int.eq_ofNat_of_zero_le hk0
  rw [Int.toNat_natCast] at hzx
  cases hc : ltI z 256 with
  | false =>
    rw [ltI_eq, decide_eq_false_iff_not] at hc
    have e : z.fdiv (2 ^ min (Int.toNat 8) IntKind.u64.bits) = z / 256 := by
      rw [Int.fdiv_eq_ediv_of_nonneg _ (by decide)]; rfl
    rw [e, u8w (by omega) (by omega)]
    obtain ⟨b, hb, hb8, hbp⟩ := tab_get (k := (z / 256).toNat) (by omega)
    have e2 : IntKind.i64.wrap (IntKind.i64.wrap ((k : Int) + 8) + IntKind.i64.wrap (b.toNat : Int)) = ((k + 8 + b.toNat : Nat) : Int) := by
      rw [wr (x := (b.toNat : Int)) (by omega) (by omega), wr (x := (k : Int) + 8) (by omega) (by omega), wr (by omega) (by omega)]; omega
    refine ⟨by decide, by omega, b, hb, ?_⟩
    rw [e2]
    refine ⟨rfl, _, rfl, by omega, fun h => pow_step (k := 8) (t := z / 256) hzx (by show _ * (2 : Int) ^ 8 ≤ z; omega) ?_⟩
    have := hbp (by omega)
    have h3 : ((2 ^ b.toNat : Nat) : Int) ≤ ((2 * (z / 256).toNat : Nat) : Int) := Int.ofNat_le.2 this
    rw [Int.natCast_pow] at h3
    have h4 : ((2 * (z / 256).toNat : Nat) : Int) = 2 * (z / 256) := by omega
    rw [h4] at h3
    exact h3
  | true =>
    rw [ltI_eq, decide_eq_true_eq] at hc
    rw [u8w (x := z) (by omega) (by omega)]
    obtain ⟨b, hb, hb8, hbp⟩ := tab_get (k := z.toNat) (by omega)
    have e2 : IntKind.i64.wrap ((k : Int) + IntKind.i64.wrap (b.toNat : Int)) = ((k + 0 + b.toNat : Nat) : Int) := by
      rw [wr (x := (b.toNat : Int)) (by omega) (by omega), wr (by omega) (by omega)]; omega
    refine ⟨by omega, b, hb, ?_⟩
    rw [e2]
    refine ⟨rfl, _, rfl, by omega, fun h => pow_step (k := 0) (t := z) hzx (by simp) ?_⟩
    have := hbp (by omega)
    have h3 : ((2 ^ b.toNat : Nat) : Int) ≤ ((2 * z.toNat : Nat) : Int) := Int.ofNat_le.2 this
    rw [Int.natCast_pow] at h3
    have h4 : ((2 * z.toNat : Nat) : Int) = 2 * z := by omega
    rw [h4] at h3
    exact h3

theorem len_spec {x : Int} (h0 : 0 ≤ x) (h1 : x < 18446744073709551616) :
    XCalls Try.prog 27 [.int .u64 x] h fun v h' => h' = h ∧ ∃ m : Nat, v = .int .i64 m ∧ m ≤ 64 ∧ (1 ≤ x → (2 : Int) ^ m ≤ 2 * x) := by
  apply x27; unfold X27
  refine (len64_spec h0 h1).mono ?_
  rintro _ _ ⟨rfl, m, rfl, hm⟩
  exact ⟨_, rfl, rfl, m, rfl, hm⟩

theorem npot_spec {x : Int} (h0 : 1 ≤ x) (h1 : x ≤ 2305843009213693952) :
    XCalls Try.prog 40 [.int .i64 x] h fun v h' => h' = h ∧ ∃ p, v = .int .u64 p ∧ 1 ≤ p ∧ p ≤ 2 * x := by
  apply x40; unfold X40
  rw [u64w (by omega) (by omega)]
  refine (len_spec (by omega) (by omega)).mono ?_
  rintro _ _ ⟨rfl, m, rfl, hm, hp⟩
  have hp := hp h0
  have hpos : (1 : Int) ≤ 2 ^ m := Int.pow_pos (by decide)
  refine ⟨_, rfl, by omega, rfl, 2 ^ m, ?_, hpos, hp⟩
  rw [Int.toNat_natCast, show min m IntKind.u64.bits = m from Nat.min_eq_left hm, Int.one_mul, u64w (by omega) (by omega)]

def word (m : Int) : O := .row [.int .u64 m] 1 false

theorem xs_spec {p : Nat} {m : Int} (s : SS en g q fr bk n d h) (hp : h.get p = some (word m)) (hpq : p ≠ q) (hpg : g.next ≤ p) :
    XCalls Try.prog 41 [.ptr (some (p, 0))] h fun v h' => (∃ y, v = .int .u64 y ∧ h'.get p = some (word y)) ∧ SS en g q fr bk n d h' := by
  apply x41; unfold X41
  refine ⟨m, by rw [Hp.ld_of hp]; rfl, m, by rw [Hp.ld_of hp]; rfl, by decide, _, Hp.st_of hp (Nat.le_of_ble_eq_true rfl), ?_⟩
  generalize bits BinOp.xor IntKind.u64 m _ = m1
  have hp1 : (h.set p (.row (splice [.int .u64 m] 0 [.int .u64 m1]) 1 false)).get p = some (word m1) := Hp.get_set_self
  have s1 := s.beside (o := .row (splice [.int .u64 m] 0 [.int .u64 m1]) 1 false) hp hpq hpg
  generalize h.set p (.row (splice [.int .u64 m] 0 [.int .u64 m1]) 1 false) = h1 at *
  refine ⟨m1, by rw [Hp.ld_of hp1]; rfl, m1, by rw [Hp.ld_of hp1]; rfl, by decide, _, Hp.st_of hp1 (Nat.le_of_ble_eq_true rfl), ?_⟩
  generalize bits BinOp.xor IntKind.u64 m1 _ = m2
  have hp2 : (h1.set p (.row (splice [.int .u64 m1] 0 [.int .u64 m2]) 1 false)).get p = some (word m2) := Hp.get_set_self
  have s2 := s1.beside (o := .row (splice [.int .u64 m1] 0 [.int .u64 m2]) 1 false) hp1 hpq hpg
  generalize h1.set p (.row (splice [.int .u64 m1] 0 [.int .u64 m2]) 1 false) = h2 at *
  refine ⟨m2, by rw [Hp.ld_of hp2]; rfl, m2, by rw [Hp.ld_of hp2]; rfl, by decide, _, Hp.st_of hp2 (Nat.le_of_ble_eq_true rfl), ?_⟩
  generalize bits BinOp.xor IntKind.u64 m2 _ = m3
  have hp3 : (h2.set p (.row (splice [.int .u64 m2] 0 [.int .u64 m3]) 1 false)).get p = some (word m3) := Hp.get_set_self
  have s3 := s2.beside (o := .row (splice [.int .u64 m2] 0 [.int .u64 m3]) 1 false) hp2 hpq hpg
  refine ⟨m3, by rw [Hp.ld_of hp3]; rfl, ⟨m3, rfl, hp3⟩, s3⟩

theorem bits_and_le {y m : Int} (h0 : 0 ≤ m) (h1 : m < 18446744073709551616) : 0 ≤ bits .and .u64 y m ∧ bits .and .u64 y m ≤ m := by
  have h2 : (BitVec.ofInt 64 y &&& BitVec.ofInt 64 m).toNat ≤ m.toNat := by
    rw [BitVec.toNat_and]
    have h3 : (BitVec.ofInt 64 m).toNat = m.toNat := by rw [BitVec.toNat_ofInt]; omega
    rw [h3]; exact Nat.and_le_right
  have e : bits .and .u64 y m = IntKind.u64.wrap ((BitVec.ofInt 64 y &&& BitVec.ofInt 64 m).toNat : Int) := rfl
  rw [e, u64w (by omega) (by omega)]
  omega

theorem brk_spec (s : SS en g q fr bk n d h) (h0 : 0 ≤ a) (hab : a ≤ b) (hb : b ≤ n) (hn : (n : Int) ≤ 2305843009213693952) :
    XCalls Try.prog 30 [.slc (some (q, fr.length)) n f, .int .i64 a, .int .i64 b] h fun v h' => v = .tup [] ∧ ∃ d', SS en g q fr bk n d' h' ∧ Sw a b d d' := by
  apply x30; unfold X30
  rw [wr (x := b - a) (by omega) (by omega)]
  cases hc : ltI (b - a) 8 with
  | true => exact ⟨rfl, d, s, .refl⟩
  | false =>
    rw [ltI_eq, decide_eq_false_iff_not] at hc
    have hq : (b - a).tdiv 4 = (b - a) / 4 := Int.tdiv_eq_ediv_of_nonneg (by omega)
    rw [hq]
    rw [wr (x := (b - a) / 4) (by omega) (by omega), wr (x := (b - a) / 4 * 2) (by omega) (by omega), wr (x := a + (b - a) / 4 * 2) (by omega) (by omega), wr (x := a + (b - a) / 4 * 2 - 1) (by omega) (by omega), wr (x := a + (b - a) / 4 * 2 + 1) (by omega) (by omega), u64w (x := b - a) (by omega) (by omega)]
    rintro h1 rfl
    have hpn : h.next ≠ q := Ne.symm (s.wf.ne s.row)
    have s1 := s.alloc (.row [.int .u64 0] 1 false)
    have hp1 : (h.alloc (.row [.int .u64 0] 1 false)).get h.next = some (word 0) := Hp.get_alloc_self
    refine ⟨_, Hp.st_of hp1 (Nat.le_of_ble_eq_true rfl), ?_⟩
    have hp2 : ((h.alloc (.row [.int .u64 0] 1 false)).set h.next (.row (splice [.int .u64 0] 0 [.int .u64 (b - a)]) 1 false)).get h.next = some (word (b - a)) := Hp.get_set_self
    have s2 := s1.beside (o := .row (splice [.int .u64 0] 0 [.int .u64 (b - a)]) 1 false) hp1 hpn s.le
    generalize (h.alloc (.row [.int .u64 0] 1 false)).set h.next (.row (splice [.int .u64 0] 0 [.int .u64 (b - a)]) 1 false) = h2 at *
    refine (npot_spec (by omega) (by omega)).mono ?_
    rintro _ _ ⟨rfl, p, rfl, hp0, hpx⟩
    have hgp := s.le
    generalize h.next = w at *
    refine ⟨p, rfl, by decide, ?_⟩
    refine ⟨fun vs h' => match vs with
      | [.int _ i] => a + (b - a) / 4 * 2 - 1 ≤ i ∧ i ≤ a + (b - a) / 4 * 2 + 2 ∧ (∃ m, h'.get w = some (word m)) ∧ ∃ d', SS en g q fr bk n d' h' ∧ Sw a b d d'
      | _ => False, fun vs _ => match vs with
      | [.int _ i] => (a + (b - a) / 4 * 2 + 2 - i).toNat
      | _ => 0, ⟨(by trivial), by omega, by omega, ⟨_, hp2⟩, d, s2, .refl⟩, ?_⟩
    rintro bs i h3 ⟨hi0, hi1, ⟨m, hm⟩, d1, s3, w1⟩
    refine ⟨by decide, ?_⟩
    cases hc2 : ltI (a + (b - a) / 4 * 2 + 1) i with
    | true => exact ⟨rfl, d1, s3, w1⟩
    | false =>
      rw [ltI_eq, decide_eq_false_iff_not] at hc2
      refine (xs_spec s3 hm hpn hgp).mono ?_
      rintro _ h4 ⟨⟨y, rfl, hm4⟩, s4⟩
      refine ⟨y, rfl, ?_⟩
      rw [u64w (x := p - 1) (by omega) (by omega)]
      have hy := bits_and_le (y := y) (m := p - 1) (by omega) (by omega)
      generalize bits .and .u64 y (p - 1) = z at *
      refine ⟨fun vs h' => match vs with
        | [.int _ o] => h' = h4 ∧ 0 ≤ o ∧ o < b - a
        | _ => False, ?_, ?_⟩
      · rw [wr (x := z) (by omega) (by omega)]
        cases hc3 : ltI z (b - a) with
        | true => rw [ltI_eq, decide_eq_true_eq] at hc3; exact ⟨rfl, rfl, by omega, hc3⟩
        | false => rw [ltI_eq, decide_eq_false_iff_not] at hc3; rw [wr (x := z - (b - a)) (by omega) (by omega)]; exact ⟨rfl, rfl, by omega, by omega⟩
      rintro bs2 o h5 ⟨rfl, ho0, ho1⟩
      obtain ⟨g1, g2, e1, e2, s6⟩ := s4.swap (i := i) (j := a + o) (by omega) (by omega) (by omega) (by omega)
      simp (disch := omega) only [wr, eq_self, true_and, and_true, cond_true, cond_false, onS, Bool.not_true, Bool.not_false, Int.toNat_natCast]
      have hm6 : g2.get w = some (word y) := by
        unfold Hp.st at e1 e2
        rw [s4.row] at e1
        simp only at e1
        cases hb1 : Nat.ble (fr.length + i.toNat * 1 + [en (d1 (a + o))].length) (fr ++ ((lst n d1).map en ++ bk)).length with
        | false => rw [hb1] at e1; cases e1
        | true =>
          rw [hb1] at e1; cases e1
          rw [Hp.get_set_self] at e2
          simp only at e2
          cases hb2 : Nat.ble (fr.length + (a + o).toNat * 1 + [en (d1 i)].length) (splice (fr ++ ((lst n d1).map en ++ bk)) (fr.length + i.toNat * 1) [en (d1 (a + o))]).length with
          | false => rw [hb2] at e2; cases e2
          | true =>
            rw [hb2] at e2; cases e2
            rw [Hp.get_set_ne hpn, Hp.get_set_ne hpn]; exact hm4
      refine ⟨⟨by omega, by omega⟩, d1 (a + o), s4.ld (by omega) (by omega), ⟨by omega, by omega⟩, d1 i, s4.ld (by omega) (by omega), ⟨by omega, by omega⟩, g1, e1, ⟨by omega, by omega⟩, g2, e2, ⟨by omega, by omega, ⟨y, hm6⟩, _, s6, w1.step i (a + o) (by omega) (by omega) (by omega) (by omega)⟩, by omega⟩

theorem cho_spec (s : SS en g q fr bk n d h) (h0 : 0 ≤ a) (hab : a < b) (hb : b ≤ n) (hn : (n : Int) ≤ 2305843009213693952) :
    XCalls Try.prog 31 [.slc (some (q, fr.length)) n f, .int .i64 a, .int .i64 b] h fun v h' => (∃ i t, v = .tup [.int .i64 i, .int .i64 t] ∧ a ≤ i ∧ i < b) ∧ SS en g q fr bk n d h' := by
  apply x31; unfold X31
  rintro h1 rfl
  have hpn : h.next ≠ q := Ne.symm (s.wf.ne s.row)
  have hgp := s.le
  have s1 := s.alloc (.row [.int .i64 0] 1 false)
  have hp1 : (h.alloc (.row [.int .i64 0] 1 false)).get h.next = some (cell 0) := Hp.get_alloc_self
  generalize h.alloc (.row [.int .i64 0] 1 false) = h1 at *
  generalize h.next = w at *
  have hq : (b - a).tdiv 4 = (b - a) / 4 := Int.tdiv_eq_ediv_of_nonneg (by omega)
  rw [wr (x := b - a) (by omega) (by omega), hq, wr (x := (b - a) / 4) (by omega) (by omega), wr (x := (b - a) / 4 * 1) (by omega) (by omega), wr (x := (b - a) / 4 * 2) (by omega) (by omega), wr (x := (b - a) / 4 * 3) (by omega) (by omega), wr (x := a + (b - a) / 4 * 1) (by omega) (by omega), wr (x := a + (b - a) / 4 * 2) (by omega) (by omega), wr (x := a + (b - a) / 4 * 3) (by omega) (by omega)]
  refine ⟨by decide, by decide, by decide, fun vs h' => match vs with
    | [.int _ i] => a ≤ i ∧ i < b ∧ SS en g q fr bk n d h' ∧ ∃ m, h'.get w = some (cell m)
    | _ => False, ?_, ?_⟩
  · cases hc : ltI (b - a) 8 with
    | true => exact ⟨rfl, by omega, by omega, s1, _, hp1⟩
    | false =>
      rw [ltI_eq, decide_eq_false_iff_not] at hc
      cases hc2 : ltI (b - a) 50 with
      | true =>
        refine (med_spec s1 hp1 hpn hgp (by omega) (by omega) (by omega) (by omega) (by omega) (by omega)).mono ?_
        rintro _ h2 ⟨⟨i, rfl, hi⟩, s2, m2, hp2⟩
        exact ⟨_, rfl, rfl, by omega, by omega, s2, m2, hp2⟩
      | false =>
        rw [ltI_eq, decide_eq_false_iff_not] at hc2
        refine (meda_spec s1 hp1 hpn hgp (by omega) (by omega) hn).mono ?_
        rintro _ h2 ⟨⟨i, rfl, hi, hi'⟩, s2, m2, hp2⟩
        refine ⟨_, rfl, ?_⟩
        refine (meda_spec s2 hp2 hpn hgp (by omega) (by omega) hn).mono ?_
        rintro _ h3 ⟨⟨j, rfl, hj, hj'⟩, s3, m3, hp3⟩
        refine ⟨_, rfl, ?_⟩
        refine (meda_spec s3 hp3 hpn hgp (by omega) (by omega) hn).mono ?_
        rintro _ h4 ⟨⟨k, rfl, hk, hk'⟩, s4, m4, hp4⟩
        refine ⟨_, rfl, ?_⟩
        refine (med_spec s4 hp4 hpn hgp (by omega) (by omega) (by omega) (by omega) (by omega) (by omega)).mono ?_
        rintro _ h5 ⟨⟨l, rfl, hl⟩, s5, m5, hp5⟩
        exact ⟨_, rfl, rfl, by omega, by omega, s5, m5, hp5⟩
  rintro bs i h2 ⟨hi0, hi1, s2, m, hm⟩
  refine ⟨m, by rw [Hp.ld_of hm]; rfl, ?_⟩
  cases m == 0 with
  | true => exact ⟨⟨i, _, rfl, hi0, hi1⟩, s2⟩
  | false =>
    cases m == 12 with
    | true => exact ⟨⟨i, _, rfl, hi0, hi1⟩, s2⟩
    | false => exact ⟨⟨i, _, rfl, hi0, hi1⟩, s2⟩
end
end Go.Vex.Sort
