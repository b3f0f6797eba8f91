/- A frame's sector as a list of bytes. -/
import Derived.Test.YtjpelmjocdodcaaStr
import Derived.Test.YtjpelmjocdodcaaCrcPure
import Derived.Test.YtjpelmjocdodcaaPackPure
namespace Go.Proofs.Ytjpelmjocdodcaa

structure Frm where
  boot : Nat
  lsn : Nat
  part : Nat
  parts : Nat
  kind : Nat
  data : List UInt8
def Frm.head (b : Frm) : List UInt8 := be 4 b.boot ++ (be 6 b.lsn ++ (be 1 b.part ++ (be 1 b.parts ++ (be 1 b.kind ++ be 1 b.data.length))))
def Frm.sec (b : Frm) : List UInt8 := b.head ++ (be 4 (crcSum (b.head ++ b.data)) ++ (b.data ++ (List.replicate (51 - b.data.length) 0 ++ b.head.take 11)))
def Frm.Ok (b : Frm) : Prop := 1 ≤ b.boot ∧ b.boot < 4294967296 ∧ 1 ≤ b.lsn ∧ b.lsn < 281474976710656 ∧ b.part < b.parts ∧ b.parts ≤ 255 ∧ b.kind < 256 ∧ b.data.length ≤ 44
@[simp] theorem Frm.head_length (b : Frm) : b.head.length = 14 := by simp [Frm.head]
theorem Frm.sec_length (b : Frm) (h : b.data.length ≤ 44) : b.sec.length = 80 := by simp [Frm.sec]; omega
end Go.Proofs.Ytjpelmjocdodcaa
