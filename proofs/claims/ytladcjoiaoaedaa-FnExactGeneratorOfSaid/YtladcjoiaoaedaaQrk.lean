/-
  For every odd number up to 10000 that is no square some small number has the symbol -1: decided by the kernel. Plain mathematics.
-/
import Derived.Test.YtladcjoiaoaedaaJac
namespace Go.Proofs.Ytladcjoiaoaedaa
open Go.RowKit
/-- Whether some number has the symbol -1. -/
def hasNon (n : Nat) : Bool := (List.range 100).any (fun r => r * r == n) || (List.range 60).any (fun g => jac g n == -1)
def allNon (s : Nat) : Bool := (List.range 500).all fun i => hasNon (2 * (s + i) + 3)
theorem all0 : allNon 0 = true := by decide +kernel
theorem all1 : allNon 500 = true := by decide +kernel
theorem all2 : allNon 1000 = true := by decide +kernel
theorem all3 : allNon 1500 = true := by decide +kernel
theorem all4 : allNon 2000 = true := by decide +kernel
theorem all5 : allNon 2500 = true := by decide +kernel
theorem all6 : allNon 3000 = true := by decide +kernel
theorem all7 : allNon 3500 = true := by decide +kernel
theorem all8 : allNon 4000 = true := by decide +kernel
theorem all9 : allNon 4500 = true := by decide +kernel
theorem allNon_at {s n : Nat} (h : allNon s = true) (h1 : 2 * s + 3 ≤ n) (h2 : n < 2 * s + 1003) (ho : n % 2 = 1) : hasNon n = true := by
  unfold allNon at h
  rw [List.all_eq_true] at h
  have := h ((n - 3) / 2 - s) (List.mem_range.2 (by omega))
  rwa [show 2 * (s + ((n - 3) / 2 - s)) + 3 = n by omega] at this
theorem hasNon_all {n : Nat} (h1 : 3 ≤ n) (h2 : n ≤ 10000) (ho : n % 2 = 1) : hasNon n = true := by
  rcases Nat.lt_or_ge n 1003 with h | h
  · exact allNon_at all0 (by omega) (by omega) ho
  rcases Nat.lt_or_ge n 2003 with h | h
  · exact allNon_at all1 (by omega) (by omega) ho
  rcases Nat.lt_or_ge n 3003 with h | h
  · exact allNon_at all2 (by omega) (by omega) ho
  rcases Nat.lt_or_ge n 4003 with h | h
  · exact allNon_at all3 (by omega) (by omega) ho
  rcases Nat.lt_or_ge n 5003 with h | h
  · exact allNon_at all4 (by omega) (by omega) ho
  rcases Nat.lt_or_ge n 6003 with h | h
  · exact allNon_at all5 (by omega) (by omega) ho
  rcases Nat.lt_or_ge n 7003 with h | h
  · exact allNon_at all6 (by omega) (by omega) ho
  rcases Nat.lt_or_ge n 8003 with h | h
  · exact allNon_at all7 (by omega) (by omega) ho
  rcases Nat.lt_or_ge n 9003 with h | h
  · exact allNon_at all8 (by omega) (by omega) ho
  · exact allNon_at all9 (by omega) (by omega) ho

end Go.Proofs.Ytladcjoiaoaedaa
