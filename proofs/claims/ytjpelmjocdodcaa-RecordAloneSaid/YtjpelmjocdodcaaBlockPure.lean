/- A block's sector as a list of bytes. -/
import Derived.Test.YtjpelmjocdodcaaStr
import Derived.Test.YtjpelmjocdodcaaCrcPure
import Derived.Test.YtjpelmjocdodcaaPackPure
namespace Go.Proofs.Ytjpelmjocdodcaa

structure Blk where
  life : Nat
  boot : Nat
  n : Nat
  off : Nat
  data : List UInt8
def Blk.head (b : Blk) : List UInt8 := be 4 b.life ++ (be 4 b.boot ++ (be 4 b.n ++ (be 6 b.off ++ be 1 b.data.length)))
def Blk.sec (b : Blk) : List UInt8 := b.head ++ (be 4 (crcSum (b.head ++ b.data)) ++ (b.data ++ (List.replicate (45 - b.data.length) 0 ++ b.head.take 12)))
def Blk.Ok (b : Blk) : Prop := b.life < 4294967296 ∧ 1 ≤ b.boot ∧ b.boot < 4294967296 ∧ b.n < 4294967296 ∧ b.off < 281474976710656 ∧ 1 ≤ b.data.length ∧ b.data.length ≤ 36
@[simp] theorem Blk.head_length (b : Blk) : b.head.length = 19 := by simp [Blk.head]
theorem Blk.sec_length (b : Blk) (h : b.data.length ≤ 36) : b.sec.length = 80 := by simp [Blk.sec]; omega
end Go.Proofs.Ytjpelmjocdodcaa
