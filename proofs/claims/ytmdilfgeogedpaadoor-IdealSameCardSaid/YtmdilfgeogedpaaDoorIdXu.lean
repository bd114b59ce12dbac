/- Numbers of 32 bits, of rows that came in. -/
import Derived.Test.YtmdilfgeogedpaaDoorIdD
namespace Go.Proofs.YtmdilfgeogedpaaDoor
theorem u32_of {l : List (List Nat)} (h : ∀ b ∈ l, ∀ i, b.getD i 0 < max 4294967296 1) : U32 l := fun r hr x hx => by
  obtain ⟨i, hi, rfl⟩ := List.mem_iff_getElem.1 hx
  have := h r hr i
  rw [List.getD_eq_getElem?_getD, List.getElem?_eq_getElem hi] at this
  simp at this
  omega
end Go.Proofs.YtmdilfgeogedpaaDoor
