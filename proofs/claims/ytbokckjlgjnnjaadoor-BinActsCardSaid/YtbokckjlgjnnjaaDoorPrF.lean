/- Walk of strconv.FormatUint at base 16. Condition: the one cell of math/bits.deBruijn64tab that is read holds what its initialiser lays. -/
import Derived.Test.YtbokckjlgjnnjaaDoorPrP
import Derived.Laws.IdiomStrings
import Derived.Deep.RegionHeld
import Derived.Lib.ItoaMem
namespace Go.Proofs.YtbokckjlgjnnjaaDoor
open Go.RowKit Go.Lib

theorem tz_and : bits BinOp.and IntKind.u64 16 (IntKind.u64.wrap (-16)) = 16 := by decide +kernel
theorem tz_mul : IntKind.u64.wrap (16 * 285870213051353865) / 288230376151711744 = 15 := by decide +kernel
def digs : ByteArray := ⟨#[48, 49, 50, 51, 52, 53, 54, 55, 56, 57, 97, 98, 99, 100, 101, 102, 103, 104, 105, 106, 107, 108, 109, 110, 111, 112, 113, 114, 115, 116, 117, 118, 119, 120, 121, 122]⟩
theorem and15 (v : Nat) : bits .and .u64 (v : Int) 15 = ((v % 16 : Nat) : Int) := by
  show IntKind.u64.wrap ((BitVec.ofInt 64 (v : Int) &&& BitVec.ofInt 64 15).toNat : Int) = _
  have h : (BitVec.ofInt 64 (v : Int) &&& BitVec.ofInt 64 15).toNat = v % 16 := by
    rw [BitVec.toNat_and, BitVec.ofInt_natCast, BitVec.toNat_ofNat, show (BitVec.ofInt 64 15).toNat = 2 ^ 4 - 1 from rfl, Nat.and_two_pow_sub_one_eq_mod]
    omega
  rw [h]
  simp [IntKind.wrap, IntKind.bits, IntKind.signed]
  omega
theorem digs_at (d : Nat) (hd : d < 16) : ∃ h : d < digs.size, digs[d] = hexc d :=
  (show ∀ e : Fin 16, ∃ h : e.1 < digs.size, digs[e.1] = hexc e.1 by decide +kernel) ⟨d, hd⟩
theorem idx_digs (z : Int) (d : Nat) (hz : z = (d : Int)) (hd : d < 16) (w : World) :
    (Instr.index 9 (.string ⟨#[48, 49, 50, 51, 52, 53, 54, 55, 56, 57, 97, 98, 99, 100, 101, 102, 103, 104, 105, 106, 107, 108, 109, 110, 111, 112, 113, 114, 115, 116, 117, 118, 119, 120, 121, 122]⟩) (.int .u64 z)).run Tryd.prog w = .ok (.int .u8 ((hexc d).toNat : Int)) w := by
  subst hz
  obtain ⟨h1, h2⟩ := digs_at d hd
  have e : ((d : Int)).toNat = d := by omega
  rw [show (⟨#[48, 49, 50, 51, 52, 53, 54, 55, 56, 57, 97, 98, 99, 100, 101, 102, 103, 104, 105, 106, 107, 108, 109, 110, 111, 112, 113, 114, 115, 116, 117, 118, 119, 120, 121, 122]⟩ : ByteArray) = digs from rfl, run_index_string w 9 digs .u64 _ Tryd.underlying9, dif_pos ⟨by omega, by omega⟩]
  simp only [e]
  rw [h2]

end Go.Proofs.YtbokckjlgjnnjaaDoor
