/- The contract of markText: one text for each number. -/
import Derived.Test.YtfmplnebdldpdaaProg
import Derived.Test.YtfmplnebdldpdaaCodec
import Derived.Outline
import Derived.WalkSpells
import Derived.WalkLawsBesides
namespace Go.Proofs.Ytfmplnebdldpdaa
open Go.RowKit

/-- the digits of a number ahead of a text -/
def mDig : Nat → Nat → List UInt8 → List UInt8
  | 0, _, acc => acc
  | f + 1, k, acc => if k = 0 then acc else mDig f (k / 10) ((48 + UInt8.ofNat (k % 10)) :: acc)
def mText (k : Nat) : ByteArray := ⟨(109 :: mDig (k + 1) k []).toArray⟩

/-- 'string([]byte{b})' -/
theorem run_byte_string (W : World) (z : Int) : (convert 37 9 (.slice (some ⟨W.heap.size, 0, none⟩) 1 1)).run Try.prog (W.alloc (.cells #[.int .u8 z] 5)) = .ok (.string ⟨#[UInt8.ofNat z.toNat]⟩) (W.alloc (.cells #[.int .u8 z] 5)) := by
  rw [run_convert_bytes_string _ _ _ _ _ _ _ Try.underlying37 Try.underlying5 Try.underlying9, run_bytesToString _ _ _ _ [z] (by simp [loadCells, go_sem])]
  rfl

set_option maxHeartbeats 800000 in
set_option maxRecDepth 100000 in
theorem markText_any (k : Nat) (w : World) (h0 : 1 ≤ k) (h1 : k ≤ 4611686018427387904) :
    Calls Try.prog 40 #[.int .i64 k] w fun e w' => e = .returned (.string (mText k)) ∧ Below w.heap.size w w' := by
  have hle : ¬ ((k : Int) ≤ 0) := by omega
  have kc := run_byte_string
  go_enter Try.func40, Try.ntmps40
  go_wp2
  go_loopw [0, 3] (fun i s wr => ∃ (f q : Nat) (acc : List UInt8), i = .int .i64 q ∧ s = .string ⟨acc.toArray⟩ ∧ q ≤ k ∧ q < f ∧ acc.length + q ≤ k ∧ Hid (mDig f q acc = mDig (k + 1) k []) ∧ Hid (Below w.heap.size w wr)) (fun i _ _ => (intOf i).toNat)
  case atStart => exact ⟨k + 1, k, [], rfl, rfl, Nat.le_refl _, by omega, by simp, Lib.hid rfl, Below.refl _ _⟩
  case round =>
    obtain ⟨f, q, acc, rfl, rfl, hqk, hqf, hal, HE, HB⟩ := hrel
    by_cases hq : 0 < q
    · have hq' : (0 : Int) < q := by omega
      have HEn : Hid (mDig (f - 1) (q / 10) ((48 + UInt8.ofNat (q % 10)) :: acc) = mDig (k + 1) k []) := by
        rw [Hid, ← HE.out]
        obtain ⟨f, rfl⟩ : ∃ g, f = g + 1 := ⟨f - 1, by omega⟩
        rw [mDig, if_neg (by omega)]; rfl
      go_wp2
      go_roundw
      case rel => exact ⟨f - 1, q / 10, _, by go_num, congrArg Value.string (by rw [ByteArray.mk_append_mk]; simp), by omega, by omega, by simp only [List.length_cons]; omega, HEn, HB.out.alloc HB.out.size _⟩
      case measure => simp [intOf]; omega
    · obtain rfl : q = 0 := by omega
      have e : Hid (mDig (k + 1) k [] = acc) := by
        rw [Hid, ← HE.out]
        obtain ⟨f, rfl⟩ : ∃ g, f = g + 1 := ⟨f - 1, by omega⟩
        simp [mDig]
      have hq' : ¬ (0 : Int) < (0 : Nat) := by omega
      go_wp2
      go_ret
      exact ⟨congrArg (fun s => Ending.returned (.string s)) (by rw [mText, e.out, ByteArray.mk_append_mk]; simp), HB.out⟩
theorem mDig_len : ∀ (f k : Nat) (acc : List UInt8), (mDig f k acc).length ≤ acc.length + f
  | 0, _, acc => by simp [mDig]
  | f + 1, k, acc => by
    rw [mDig]
    split
    · omega
    · have := mDig_len f (k / 10) ((48 + UInt8.ofNat (k % 10)) :: acc)
      simp at this; omega
theorem mText_size (k : Nat) (h : k ≤ 4611686018427387904) : (mText k).size ≤ 9223372036854775807 := by
  have := mDig_len (k + 1) k []
  simp [mText, ByteArray.size] at this ⊢
  omega

end Go.Proofs.Ytfmplnebdldpdaa
