/- A torn sector of a frame: the plain part of FrameTorn. -/
import Derived.Test.YtjpelmjocdodcaaFDecode
import Derived.Test.YtjpelmjocdodcaaPures
namespace Go.Proofs.Ytjpelmjocdodcaa

theorem fname_of {b : Frm} (ok : b.Ok) : b.boot = un ((b.sec.take 11).take 4) ∧ b.lsn = un (((b.sec.take 11).take 10).drop 4) ∧ b.part = un ((b.sec.take 11).drop 10) := by
  have h := ffieldsOf_sec ok
  rw [List.take_take, List.take_take, show min 4 11 = 4 from rfl, show min 10 11 = 10 from rfl]
  exact ⟨(congrArg Frm.boot h).symm, (congrArg Frm.lsn h).symm, (congrArg Frm.part h).symm⟩
theorem fdecodeOf_zeros : fdecodeOf (List.replicate 80 0) = none := by
  cases h : fdecodeOf (List.replicate 80 0) with
  | none => rfl
  | some b =>
    obtain ⟨ok, hs⟩ := fdecodeOf_some h
    have := (fname_of ok).1
    rw [hs, List.take_replicate, List.take_replicate, un_zeros] at this
    have := ok.1
    omega
theorem torn_frames {a b : Frm} (ha : a.Ok) (hb : b.Ok) (hd : ¬ (a.boot = b.boot ∧ a.lsn = b.lsn ∧ a.part = b.part)) {n : Nat} (hn : n ≤ 80) (h1 : a.sec.take n ++ b.sec.drop n ≠ a.sec) (h2 : a.sec.take n ++ b.sec.drop n ≠ b.sec) :
    fdecodeOf (a.sec.take n ++ b.sec.drop n) = none := by
  cases h : fdecodeOf (a.sec.take n ++ b.sec.drop n) with
  | none => rfl
  | some c =>
    obtain ⟨ok, hs⟩ := fdecodeOf_some h
    have hc := c.sec_again ok.2.2.2.2.2.2.2
    rw [hs] at hc
    rcases torn_is (N := 80) (w := 11) (by omega) (by omega) (a.sec_length ha.2.2.2.2.2.2.2) (b.sec_length hb.2.2.2.2.2.2.2) (a.sec_again ha.2.2.2.2.2.2.2) (b.sec_again hb.2.2.2.2.2.2.2) (fun e => hd (by
      obtain ⟨a1, a2, a3⟩ := fname_of ha
      obtain ⟨b1, b2, b3⟩ := fname_of hb
      rw [e] at a1 a2 a3
      exact ⟨by omega, by omega, by omega⟩)) hn hc with h | h
    · exact absurd h h1
    · exact absurd h h2
theorem ftorn_blank {a : Frm} (ha : a.Ok) {n : Nat} (hn : n ≤ 80) (h1 : a.sec.take n ++ (List.replicate 80 0).drop n ≠ a.sec) : fdecodeOf (a.sec.take n ++ (List.replicate 80 0).drop n) = none := by
  cases h : fdecodeOf (a.sec.take n ++ (List.replicate 80 0).drop n) with
  | none => rfl
  | some c =>
    obtain ⟨ok, hs⟩ := fdecodeOf_some h
    have hc := c.sec_again ok.2.2.2.2.2.2.2
    rw [hs] at hc
    rcases torn_is (N := 80) (w := 11) (by omega) (by omega) (a.sec_length ha.2.2.2.2.2.2.2) (List.length_replicate) (a.sec_again ha.2.2.2.2.2.2.2) (by rw [List.take_replicate, List.drop_replicate]; rfl) (fun e => by
      have a2 := (fname_of ha).1
      rw [e, List.take_replicate, List.take_replicate, un_zeros] at a2
      have := ha.1
      omega) hn hc with h3 | h3
    · exact absurd h3 h1
    · rw [h3, fdecodeOf_zeros] at h
      cases h
end Go.Proofs.Ytjpelmjocdodcaa
