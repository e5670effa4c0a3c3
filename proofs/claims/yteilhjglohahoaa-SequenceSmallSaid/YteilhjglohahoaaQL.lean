/- The reference's rule for a limit, seat by seat: plain laws, no program in sight. -/
import Derived.Test.YteilhjglohahoaaQB
set_option linter.unusedSimpArgs false
set_option linter.unusedVariables false
namespace Go.Sx.Seq
/-- A stop that has no seat yet. -/
def bare (s : Stop) : Seat := ⟨s.id, s.vol, 0, 0⟩
def outF (S : List Seat) (r : List Stop) : List Seat := S ++ r.map bare
theorem outF_len (S : List Seat) (r : List Stop) : (outF S r).length = S.length + r.length := by simp [outF]
theorem outF_get (S : List Seat) (s : Stop) (r : List Stop) : (outF S (s :: r))[S.length]? = some (bare s) := by simp [outF]
theorem outF_set (S : List Seat) (s : Stop) (r : List Stop) (f a : Int) : (outF S (s :: r)).set S.length ⟨s.id, s.vol, f, a⟩ = outF (S ++ [⟨s.id, s.vol, f, a⟩]) r := by simp [outF]
theorem outF_set2 (S : List Seat) (s : Stop) (r : List Stop) (f a : Int) : ((outF S (s :: r)).set S.length ⟨s.id, s.vol, f, 0⟩).set S.length ⟨s.id, s.vol, f, a⟩ = outF (S ++ [⟨s.id, s.vol, f, a⟩]) r := by
  rw [List.set_set]; exact outF_set S s r f a
theorem outF_get2 (S : List Seat) (s : Stop) (r : List Stop) (f : Int) : ((outF S (s :: r)).set S.length ⟨s.id, s.vol, f, 0⟩)[S.length]? = some ⟨s.id, s.vol, f, 0⟩ := by simp [outF]
theorem along_put {limit cur held : Nat} {load c : Int} {s : Stop} {r : List Stop} {cs : List Int} (h1 : held < limit) (h2 : load + s.vol ≤ c) :
    alongF limit (s :: r) cur held load (c :: cs) = ⟨s.id, s.vol, held, cur⟩ :: alongF limit r cur (held + 1) (load + s.vol) (c :: cs) := by
  rw [alongF, place, if_pos ⟨h1, h2⟩]
theorem along_skip {limit cur held : Nat} {load c : Int} {s : Stop} {r : List Stop} {cs : List Int} (h : ¬ (held < limit ∧ load + s.vol ≤ c)) :
    alongF limit (s :: r) cur held load (c :: cs) = alongF limit (s :: r) (cur + 1) 0 0 cs := by
  simp only [alongF, place, if_neg h]
theorem along_none {limit cur held : Nat} {load : Int} {s : Stop} {r : List Stop} : alongF limit (s :: r) cur held load [] = [] := by
  rw [alongF, place]
theorem along_end {limit cur held : Nat} {load : Int} {cs : List Int} : alongF limit [] cur held load cs = [] := rfl
/-- The rule, between two seats: S have seats, r have none, the stacker at holds k stops and a load. -/
structure Mid (limit : Nat) (stops : List Stop) (caps : List Int) (S : List Seat) (r : List Stop) (at_ k : Nat) (load : Int) : Prop where
  all : rule limit stops caps = S ++ alongF limit r at_ k load (caps.drop at_)
  out : S.length + r.length = stops.length
  suf : ∀ s ∈ r, s ∈ stops
  bd : 0 ≤ load ∧ load ≤ 100000
theorem Mid.start {limit : Nat} {stops : List Stop} {caps : List Int} : Mid limit stops caps [] stops 0 0 0 := ⟨rfl, by simp, fun _ h => h, by omega⟩
theorem Mid.put {limit : Nat} {stops : List Stop} {caps : List Int} {S : List Seat} {s : Stop} {r : List Stop} {at_ k : Nat} {load c : Int} (h : Mid limit stops caps S (s :: r) at_ k load) (hc : caps[at_]? = some c) (h1 : k < limit) (h2 : load + s.vol ≤ c) (hv : 0 ≤ s.vol) (hm : c ≤ 100000) :
    Mid limit stops caps (S ++ [⟨s.id, s.vol, k, at_⟩]) r at_ (k + 1) (load + s.vol) := by
  have hlt := (List.getElem?_eq_some_iff.1 hc).1
  have e : caps.drop at_ = c :: caps.drop (at_ + 1) := by rw [List.drop_eq_getElem_cons hlt, (List.getElem?_eq_some_iff.1 hc).2]
  refine ⟨?_, by rw [List.length_append, List.length_singleton]; have := h.out; rw [List.length_cons] at this; omega, fun x hx => h.suf x (List.mem_cons_of_mem _ hx), by have := h.bd; omega⟩
  rw [h.all, e, along_put h1 h2, List.append_assoc]
  rfl
theorem Mid.skip {limit : Nat} {stops : List Stop} {caps : List Int} {S : List Seat} {r : List Stop} {at_ k : Nat} {load c : Int} (h : Mid limit stops caps S r at_ k load) (hc : caps[at_]? = some c) (hs : ∀ s r', r = s :: r' → ¬ (k < limit ∧ load + s.vol ≤ c)) :
    Mid limit stops caps S r (at_ + 1) 0 0 := by
  have hlt := (List.getElem?_eq_some_iff.1 hc).1
  have e : caps.drop at_ = c :: caps.drop (at_ + 1) := by rw [List.drop_eq_getElem_cons hlt, (List.getElem?_eq_some_iff.1 hc).2]
  refine ⟨?_, h.out, h.suf, by omega⟩
  rw [h.all]
  cases r with
  | nil => rw [along_end, along_end]
  | cons s r' => rw [e, along_skip (hs s r' rfl)]
theorem Mid.done {limit : Nat} {stops : List Stop} {caps : List Int} {S : List Seat} {r : List Stop} (h : Mid limit stops caps S r caps.length 0 0) : rule limit stops caps = S := by
  rw [h.all, List.drop_length]
  cases r with
  | nil => rw [along_end, List.append_nil]
  | cons s r' => rw [along_none, List.append_nil]
end Go.Sx.Seq
