/- Bytes that came in. -/
import Derived.Test.YtodccdfpoocolaaWrArg
set_option linter.unusedVariables false
namespace Go.Proofs.Ytodccdfpoocolaa
open Go.RowKit Go.Lib

def flU : Fl Int := ⟨1, fun n => [.int .u8 n], fun _ => rfl, fun _ u hu => by rw [List.mem_singleton.1 hu]; rfl⟩
theorem rf8_of {w : World} {A : Option Addr} {n : Nat} {zs : List Int} (h : RdS (Kd.int .u8) w A n zs) : Rf flB w A n (zs.map Int.toNat) ∧ ∀ y ∈ zs.map Int.toNat, y < 256 := by
  have hU : Rf flU w A n zs := Rf.of_rds (k := Kd.int .u8) (f := flU) (fun w x cs hK => hK.1) rfl h
  have hr : ∀ (j : Nat) (x : Int), zs[j]? = some x → 0 ≤ x ∧ x < 256 := by
    intro j x hj
    have hl := (List.getElem?_eq_some_iff.1 hj).1
    obtain ⟨b, off, _, hc⟩ := h.2.2 (by have := h.1; omega)
    obtain ⟨cs, hK, _⟩ := hc j x hj
    exact u8_wf hK.2
  refine ⟨⟨by rw [List.length_map]; exact hU.1, hU.2.1, fun hp => ?_⟩, fun y hy => ?_⟩
  · obtain ⟨b, off, e, hc⟩ := hU.2.2 hp
    refine ⟨b, off, e, fun j x hx i v hv => ?_⟩
    rw [List.getElem?_map] at hx
    obtain ⟨z, hz, rfl⟩ := Option.map_eq_some_iff.1 hx
    have h0 := (hr j z hz).1
    refine hc j z hz i v ?_
    have e2 : ((z.toNat : Nat) : Int) = z := by omega
    have e3 : flB.enc z.toNat = flU.enc z := by show [Value.int .u8 ((z.toNat : Nat) : Int)] = [Value.int .u8 z]; rw [e2]
    rw [e3] at hv
    exact hv
  · obtain ⟨z, hz, rfl⟩ := List.mem_map.1 hy
    obtain ⟨j, hj⟩ := List.mem_iff_getElem?.1 hz
    have := hr j z hj
    omega
end Go.Proofs.Ytodccdfpoocolaa
