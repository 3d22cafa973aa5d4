/- Vg, part U: the machine's bit operations on naturals. -/
import Derived.Test.YtcdjhhepgkcabaaDoorVgT
namespace Go.Vg

/-- Naturals below kb k are values of kind k as they stand. -/
def kb (k : IntKind) : Nat := if k.signed then 2 ^ (k.bits - 1) else 2 ^ k.bits

theorem kb_le (k : IntKind) : kb k ≤ 2 ^ k.bits := by cases k <;> decide

theorem wrapN (k : IntKind) {n : Nat} (h : n < kb k) : k.wrap (n : Int) = (n : Int) := by
  cases k <;> simp [kb, IntKind.bits, IntKind.signed, IntKind.wrap] at h ⊢ <;> omega

theorem bvN (k : IntKind) {n : Nat} (h : n < kb k) : (BitVec.ofInt k.bits (n : Int)).toNat = n := by
  rw [BitVec.ofInt_natCast, BitVec.toNat_ofNat]
  exact Nat.mod_eq_of_lt (Nat.lt_of_lt_of_le h (kb_le k))

theorem kb_pow (k : IntKind) : ∃ e, kb k = 2 ^ e := by
  unfold kb
  split
  · exact ⟨_, rfl⟩
  · exact ⟨_, rfl⟩

theorem iandN (k : IntKind) {a b : Nat} (ha : a < kb k) (hb : b < kb k) : iand k (a : Int) (b : Int) = ((a &&& b : Nat) : Int) := by
  unfold iand
  rw [BitVec.toNat_and, bvN k ha, bvN k hb]
  exact wrapN k (Nat.lt_of_le_of_lt Nat.and_le_left ha)
theorem iorN (k : IntKind) {a b : Nat} (ha : a < kb k) (hb : b < kb k) : ior k (a : Int) (b : Int) = ((a ||| b : Nat) : Int) := by
  unfold ior
  rw [BitVec.toNat_or, bvN k ha, bvN k hb]
  obtain ⟨e, he⟩ := kb_pow k
  rw [he] at ha hb
  exact wrapN k (by rw [he]; exact Nat.or_lt_two_pow ha hb)
theorem ixorN (k : IntKind) {a b : Nat} (ha : a < kb k) (hb : b < kb k) : ixor k (a : Int) (b : Int) = ((a ^^^ b : Nat) : Int) := by
  unfold ixor
  rw [BitVec.toNat_xor, bvN k ha, bvN k hb]
  obtain ⟨e, he⟩ := kb_pow k
  rw [he] at ha hb
  exact wrapN k (by rw [he]; exact Nat.xor_lt_two_pow ha hb)
theorem ishrN (k : IntKind) {a m : Nat} (h : m ≤ k.bits) : ishr k (a : Int) (m : Int) = ((a / 2 ^ m : Nat) : Int) := by
  rw [ishr_eq k _ m h]
  simp
theorem ishlN (k : IntKind) {a m : Nat} (h : m ≤ k.bits) : ishl k (a : Int) (m : Int) = k.wrap ((a * 2 ^ m : Nat) : Int) := by
  unfold ishl
  rw [Int.toNat_natCast, Nat.min_eq_left h]
  simp
theorem wN8 (n : Nat) : IntKind.u8.wrap (n : Int) = ((n % 256 : Nat) : Int) := by rw [w8]; omega
theorem wN16 (n : Nat) : IntKind.u16.wrap (n : Int) = ((n % 65536 : Nat) : Int) := by rw [w16]; omega
theorem wN32 (n : Nat) : IntKind.u32.wrap (n : Int) = ((n % 4294967296 : Nat) : Int) := by rw [w32]; omega
theorem wN64 (n : Nat) : IntKind.u64.wrap (n : Int) = ((n % 18446744073709551616 : Nat) : Int) := by rw [w64]; omega
theorem wNi {n : Nat} (h : n < 9223372036854775808) : IntKind.i64.wrap (n : Int) = (n : Int) := wi (by omega) (by omega)

end Go.Vg
