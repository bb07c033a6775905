/- The digest of a thousand bytes 97: block by block, by the kernel's own reckoning. Conditions: none. -/
import Derived.Test.YtbafbpfpnfnikaaShaM
namespace Go.Proofs.Ytbafbpfpnfnikaa.Given
open Go.RowKit Go.Proofs.Ytbafbpfpnfnikaa.PShaHmac
open Go.Proofs.Ytbafbpfpnfnikaa.Row
set_option maxRecDepth 100000
theorem ba_ext3 {a b : ByteArray} (h : a.data.toList = b.data.toList) : a = b := by
  cases a; cases b
  congr 1
  exact Array.toList_inj.1 h
def stA (c : UInt8) (s : List UInt32) : Nat → List UInt32
  | 0 => s
  | n + 1 => stA c (go64S s (List.replicate 64 c)) n
theorem eat_many (c : UInt8) (r : Nat) : ∀ n s, eat n s (manyW (64 * n + r) c) = (stA c s n, manyW r c)
  | 0, s => by rw [Nat.mul_zero, Nat.zero_add]; rfl
  | n + 1, s => by
    have e1 : (manyW (64 * (n + 1) + r) c).data.toList = List.replicate 64 c ++ List.replicate (64 * n + r) c := by
      simp only [manyW]
      rw [List.replicate_append_replicate]
      congr 1
      omega
    have e2 : (manyW (64 * (n + 1) + r) c).extract 64 (manyW (64 * (n + 1) + r) c).size = manyW (64 * n + r) c := by
      apply ba_ext3
      have h : (manyW (64 * (n + 1) + r) c).data.toList.length = (manyW (64 * (n + 1) + r) c).size := Array.length_toList
      rw [ByteArray.data_extract, Array.toList_extract, List.extract_eq_take_drop, List.take_of_length_le (by rw [List.length_drop, h]; exact Nat.le_refl _), e1, List.drop_left' (by simp)]
      simp [manyW]
    rw [eat, if_pos (by rw [manyW_size]; omega), e1, e2, go64S_app _ _ _ (by simp)]
    exact eat_many c r n _
theorem stK0 : go64S [0x6a09e667, 0xbb67ae85, 0x3c6ef372, 0xa54ff53a, 0x510e527f, 0x9b05688c, 0x1f83d9ab, 0x5be0cd19] (List.replicate 64 97) = [0xdf5bb81c, 0xe81e0626, 0xfb45a894, 0x4fd40f31, 0xb25e6816, 0xd6d499c1, 0xab904929, 0x635e66] := by decide +kernel
theorem stK1 : go64S [0xdf5bb81c, 0xe81e0626, 0xfb45a894, 0x4fd40f31, 0xb25e6816, 0xd6d499c1, 0xab904929, 0x635e66] (List.replicate 64 97) = [0xeac1afff, 0x7e2fe374, 0x5215a157, 0x6aea3c45, 0x1df0539e, 0x97f91d40, 0xf96170a7, 0x5b4dc721] := by decide +kernel
theorem stK2 : go64S [0xeac1afff, 0x7e2fe374, 0x5215a157, 0x6aea3c45, 0x1df0539e, 0x97f91d40, 0xf96170a7, 0x5b4dc721] (List.replicate 64 97) = [0x76ebae86, 0x127c8d5d, 0x50a2ca5b, 0x497d56bd, 0x46093f9a, 0x41df7ca0, 0xebfd435d, 0x270c4970] := by decide +kernel
theorem stK3 : go64S [0x76ebae86, 0x127c8d5d, 0x50a2ca5b, 0x497d56bd, 0x46093f9a, 0x41df7ca0, 0xebfd435d, 0x270c4970] (List.replicate 64 97) = [0x6fd0be67, 0x44718c30, 0xa1ec8889, 0xc3b23d25, 0x9f9b6123, 0x8e0747e1, 0x65715407, 0x3d0e7958] := by decide +kernel
theorem stK4 : go64S [0x6fd0be67, 0x44718c30, 0xa1ec8889, 0xc3b23d25, 0x9f9b6123, 0x8e0747e1, 0x65715407, 0x3d0e7958] (List.replicate 64 97) = [0x87da141a, 0x63bba10e, 0x15aaf1ba, 0x47d5c74d, 0xd878131c, 0xbd1e0971, 0x3ace63e7, 0x44df187f] := by decide +kernel
theorem stK5 : go64S [0x87da141a, 0x63bba10e, 0x15aaf1ba, 0x47d5c74d, 0xd878131c, 0xbd1e0971, 0x3ace63e7, 0x44df187f] (List.replicate 64 97) = [0x846016fd, 0x63ce922b, 0xc214d039, 0x178eceab, 0x7fd0bfb1, 0x2d7ce142, 0xbdcb169f, 0xbdb11325] := by decide +kernel
theorem stK6 : go64S [0x846016fd, 0x63ce922b, 0xc214d039, 0x178eceab, 0x7fd0bfb1, 0x2d7ce142, 0xbdcb169f, 0xbdb11325] (List.replicate 64 97) = [0x1b6fc7bc, 0xaf1001f9, 0xb992d9, 0xe302bb7e, 0xf15abc18, 0x98d5a862, 0x203b4a01, 0x897489f0] := by decide +kernel
theorem stK7 : go64S [0x1b6fc7bc, 0xaf1001f9, 0xb992d9, 0xe302bb7e, 0xf15abc18, 0x98d5a862, 0x203b4a01, 0x897489f0] (List.replicate 64 97) = [0x87ae8726, 0xba87bb6f, 0x97055cb7, 0x4dc5b914, 0xdd3059b, 0x7eef21fb, 0xd02383d7, 0x4baa6850] := by decide +kernel
theorem stK8 : go64S [0x87ae8726, 0xba87bb6f, 0x97055cb7, 0x4dc5b914, 0xdd3059b, 0x7eef21fb, 0xd02383d7, 0x4baa6850] (List.replicate 64 97) = [0xc4d0f7c1, 0x3dc233e, 0xb716cd16, 0x3175575f, 0x5d5ea279, 0x9d35f38, 0xbdae5f4b, 0xd7c8b9fc] := by decide +kernel
theorem stK9 : go64S [0xc4d0f7c1, 0x3dc233e, 0xb716cd16, 0x3175575f, 0x5d5ea279, 0x9d35f38, 0xbdae5f4b, 0xd7c8b9fc] (List.replicate 64 97) = [0x6d1077bf, 0x3ea8d943, 0x903bcf49, 0x4cd07545, 0x7400d032, 0x6bad0fce, 0x62c7dd9e, 0x9ce81aba] := by decide +kernel
theorem stK10 : go64S [0x6d1077bf, 0x3ea8d943, 0x903bcf49, 0x4cd07545, 0x7400d032, 0x6bad0fce, 0x62c7dd9e, 0x9ce81aba] (List.replicate 64 97) = [0x313643e7, 0xef6a9cd4, 0x1743835e, 0x3af3fdeb, 0x8537d689, 0x268cd543, 0x22a2b1e5, 0xbb932c55] := by decide +kernel
theorem stK11 : go64S [0x313643e7, 0xef6a9cd4, 0x1743835e, 0x3af3fdeb, 0x8537d689, 0x268cd543, 0x22a2b1e5, 0xbb932c55] (List.replicate 64 97) = [0x66ce742d, 0xfa30cd09, 0x656becf, 0xd3fd9f28, 0xda67d3ad, 0xe8917c49, 0x99338374, 0x714e86a8] := by decide +kernel
theorem stK12 : go64S [0x66ce742d, 0xfa30cd09, 0x656becf, 0xd3fd9f28, 0xda67d3ad, 0xe8917c49, 0x99338374, 0x714e86a8] (List.replicate 64 97) = [0x297937ef, 0x8df3f5d7, 0x2e5b305, 0x4e2e259d, 0x34885462, 0x6b640548, 0x212d471c, 0xd0edbe49] := by decide +kernel
theorem stK13 : go64S [0x297937ef, 0x8df3f5d7, 0x2e5b305, 0x4e2e259d, 0x34885462, 0x6b640548, 0x212d471c, 0xd0edbe49] (List.replicate 64 97) = [0xf0feaa26, 0x3d54b086, 0x3c2398da, 0xee848054, 0x8a5ef7ba, 0x7f4265e9, 0xb5effe18, 0xd9ddf5f2] := by decide +kernel
theorem stK14 : go64S [0xf0feaa26, 0x3d54b086, 0x3c2398da, 0xee848054, 0x8a5ef7ba, 0x7f4265e9, 0xb5effe18, 0xd9ddf5f2] (List.replicate 64 97) = [0xc607cf1e, 0x6a95d2fe, 0xba850476, 0x73fd2864, 0x75f9a417, 0x8c3bdf1, 0x32720d1a, 0x77e49fac] := by decide +kernel
theorem stA15 : stA 97 H0 15 = [0xc607cf1e, 0x6a95d2fe, 0xba850476, 0x73fd2864, 0x75f9a417, 0x8c3bdf1, 0x32720d1a, 0x77e49fac] := by
  rw [show H0 = [0x6a09e667, 0xbb67ae85, 0x3c6ef372, 0xa54ff53a, 0x510e527f, 0x9b05688c, 0x1f83d9ab, 0x5be0cd19] from rfl]
  simp only [stA, stK0, stK1, stK2, stK3, stK4, stK5, stK6, stK7, stK8, stK9, stK10, stK11, stK12, stK13, stK14]
theorem last1000 : sumW [0xc607cf1e, 0x6a95d2fe, 0xba850476, 0x73fd2864, 0x75f9a417, 0x8c3bdf1, 0x32720d1a, 0x77e49fac] (manyW 40 97) 1000 = ⟨#[65, 237, 236, 228, 45, 99, 232, 217, 191, 81, 90, 155, 166, 147, 46, 28, 32, 203, 201, 245, 165, 209, 52, 100, 90, 219, 93, 177, 185, 115, 126, 163]⟩ := by decide +kernel
theorem sha1000 : shaW (manyW 1000 97) = ⟨#[65, 237, 236, 228, 45, 99, 232, 217, 191, 81, 90, 155, 166, 147, 46, 28, 32, 203, 201, 245, 165, 209, 52, 100, 90, 219, 93, 177, 185, 115, 126, 163]⟩ := by
  have h := eat_many 97 40 15 H0
  rw [shaW, manyW_size, show 1000 / 64 = 15 from rfl, show (1000 : Nat) = 64 * 15 + 40 from rfl, h, stA15]
  exact last1000
theorem begins_1000 : hamperlaw07_begins.f 70 (shaW (manyW 1000 97)) ⟨#[52, 49, 101, 100, 101, 99, 101, 52]⟩ = some true := by
  rw [sha1000]
  decide +kernel
end Go.Proofs.Ytbafbpfpnfnikaa.Given
