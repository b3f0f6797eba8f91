/- sacristanlaw06.known returns true, in every world. -/
import Derived.Test.YtjpelmjocdodcaaRecWrite
import Derived.Test.YtjpelmjocdodcaaSlEqual
import Derived.Test.YtjpelmjocdodcaaRead
namespace Go.Proofs.Ytjpelmjocdodcaa
open Go.RowKit Go.ChangeMaps

def hello : List UInt8 := [104, 101, 108, 108, 111]
def khello : List UInt8 := (recF 3 4 5 hello 0).sec
theorem hello_ok : ROk 3 4 := by unfold ROk; decide
theorem hello_secs : recSecs 3 4 5 hello = ([khello], 0) := by
  rw [recSecs_ok (by decide) hello_ok]
  rfl
theorem khello_len : khello.length = 80 := (recF 3 4 5 hello 0).sec_length (by decide)
theorem hello_read : readVal ((Dk.new 4).write 2 khello) .idle 2 4 4 3 = .tuple #[.agg #[.int .i64 3, .int .i64 4, .int .i64 0, .int .i64 1, .int .u8 5, .string ⟨#[104, 101, 108, 108, 111]⟩], .int .i64 0] := by
  have h0 : readE ((Dk.new 4).write 2 khello) .idle 2 4 = 0 := by kernel_rfl
  unfold readVal
  rw [if_pos h0]
  have hat : RAt ((Dk.new 4).write 2 khello).read 2 3 4 5 hello := fun k hk => by
    have : npart hello.length = 1 := rfl
    obtain rfl : k = 0 := by omega
    rfl
  rw [show ((2:Int).toNat) = 2 from rfl, show ((4:Int).toNat) = 4 from rfl, hat.found (by decide) (by decide) hello_ok (by decide) (by decide)]
  rfl
set_option maxRecDepth 100000 in
set_option maxHeartbeats 2000000 in
theorem known06_any (w : World) : Calls Try.prog 38 #[] w fun e w' => e = .returned (.bool true) ∧ Below w.heap.size w w' := by
  go_enter Try.func38, Try.ntmps38
  go_wp2_with (fail)
  refine (fnew_any w).mono ?_
  rintro e w1 ⟨rfl, hw1⟩
  have HS1 := Lib.hid (show w1.heap.size = w.heap.size + 1 by rw [hw1]; exact alloc_size _ _)
  have HW1 := Lib.hid hw1
  clear hw1
  go_wp2_with (fail)
  refine (dnew_ok 4 w.heap.size w1 (by omega) (by omega) (by have := HS1.out; omega)).mono ?_
  rintro e w2 ⟨rfl, hd, hb⟩
  obtain ⟨h2, F2, B2⟩ := Lab.new HW1.out hd hb
  obtain ⟨d, hdd⟩ : ∃ d, w1.heap.size + 1 = d := ⟨_, rfl⟩
  obtain ⟨m, hmm⟩ : ∃ m, w1.heap.size = m := ⟨_, rfl⟩
  rw [hdd] at h2 F2 ⊢
  rw [hmm] at h2 F2
  have H2 := Lib.hid h2
  have HF2 := Lib.hid F2
  have HB2 := Lib.hid B2
  clear hd hb hdd hmm h2 B2 F2 HW1
  go_wp2_with (fail)
  refine (sectors_any 3 4 5 (by decide) hello (by decide) w2).mono ?_
  rw [hello_secs]
  rintro e w3 ⟨A, cap, rfl, hr, b3, -⟩
  obtain ⟨g, rfl, c, c'⟩ := rstr_at (i := 0) hr rfl Nat.zero_lt_one
  rw [show List.getD [khello] 0 [] = khello from rfl] at c c'
  have H3 := Lib.hid (H2.out.below b3)
  have HB3 := Lib.hid (below_step b3 HB2.out (Nat.le_refl _))
  have hw := dwrite_any d w.heap.size m _ _ _ 2 khello w3 H3.out.disk H3.out.fuse (by decide)
  rw [show doWrite (Dk.new 4) .idle 2 khello = (0, (Dk.new 4).write 2 khello, .idle) from doWrite_ok (i := 2) (by decide) khello_len] at hw
  dsimp only at hw
  clear b3 hr H2 HB2
  dsimp only [List.length_cons, List.length_nil, Nat.reduceAdd, Nat.zero_add]
  go_wp2_with (fail)
  refine hw.mono ?_
  rintro e w4 ⟨rfl, ha⟩
  obtain ⟨v4, h4, k4, n4⟩ := ha.lab
  have HB4 := Lib.hid (HF2.out.below HB3.out HB3.out.size k4)
  have hrd := read_any d w.heap.size m v4 _ _ 2 4 4 3 w4 h4
  rw [hello_read] at hrd
  clear ha h4 k4 n4 c c' hw H3 HB3 HF2
  go_wp2_with (fail)
  refine hrd.mono ?_
  rintro e w5 ⟨rfl, b5⟩
  have q5 := alloc_new w5 (.cells #[.int .i64 3, .int .i64 4, .int .i64 0, .int .i64 1, .int .u8 5, .string ⟨#[104, 101, 108, 108, 111]⟩] 77)
  have B5 := alloc_below w5 (.cells #[.int .i64 3, .int .i64 4, .int .i64 0, .int .i64 1, .int .u8 5, .string ⟨#[104, 101, 108, 108, 111]⟩] 77)
  have i0 := (cell_of q5 0).trans rfl
  have i1 := (cell_of q5 1).trans rfl
  have i2 := (cell_of q5 2).trans rfl
  have i3 := (cell_of q5 3).trans rfl
  have i4 := (cell_of q5 4).trans rfl
  have i5 := (cell_of q5 5).trans rfl
  have HB5 := Lib.hid (below_step B5 (below_step b5 HB4.out (Nat.le_refl _)) (Nat.le_refl _))
  clear b5 HB4 B5 q5 hrd
  go_wp2
  go_ret
  exact ⟨rfl, HB5.out⟩
end Go.Proofs.Ytjpelmjocdodcaa
