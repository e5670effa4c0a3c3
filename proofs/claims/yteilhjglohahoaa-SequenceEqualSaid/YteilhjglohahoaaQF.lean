/- Equal volumes, equal capacities. Plain laws, no program in sight. -/
import Derived.Test.YteilhjglohahoaaQB
set_option linter.unusedSimpArgs false
set_option linter.unusedVariables false
namespace Go.Sx.Seq
def stopsN (v : Int) (n : Nat) : List Stop := (List.range n).map fun (i : Nat) => ⟨(i : Int) + 1, v⟩
theorem stopsN_len (v : Int) (n : Nat) : (stopsN v n).length = n := by simp [stopsN]
theorem stopsN_succ (v : Int) (n : Nat) : stopsN v (n + 1) = stopsN v n ++ [⟨(n : Int) + 1, v⟩] := by simp [stopsN, List.range_succ]
theorem stopsN_vol {v : Int} {n : Nat} {s : Stop} (h : s ∈ stopsN v n) : s.vol = v := by
  obtain ⟨i, _, rfl⟩ := List.mem_map.1 h; rfl
theorem stopsN_route {v : Int} (hv : 1 ≤ v ∧ v ≤ 100) {n : Nat} (hn : n ≤ 1000) : routeFrom [] (stopsN v n) := by
  refine ⟨fun s hs => ?_, ?_, fun s hs => by simp⟩
  · obtain ⟨i, hi, rfl⟩ := List.mem_map.1 hs
    have := List.mem_range.1 hi
    unfold Stop.ok
    simp only []
    omega
  · rw [stopsN, List.map_map]
    refine List.pairwise_map.2 (List.Pairwise.imp ?_ (List.nodup_range (n := n)))
    intro a b hab e
    simp only [Function.comp] at e
    omega
theorem alongF_count {limit : Nat} : ∀ (l : List Stop) (cur held : Nat) (load : Int) (cs : List Int), held ≤ limit → (cs = [] → held = 0) → (alongF limit l cur held load cs).length + held ≤ limit * cs.length
  | [], cur, held, load, cs, h1, h2 => by
    cases cs with
    | nil => simp [alongF, h2 rfl]
    | cons c cs =>
      simp only [alongF, List.length_nil, List.length_cons]
      have := Nat.mul_le_mul_left limit (show 1 ≤ cs.length + 1 by omega)
      omega
  | s :: r, cur, held, load, cs, h1, h2 => by
    have hbase : held ≤ limit * cs.length := by
      cases cs with
      | nil => simp [h2 rfl]
      | cons c cs =>
        have := Nat.mul_le_mul_left limit (show 1 ≤ cs.length + 1 by omega)
        simp only [List.length_cons]; omega
    rw [alongF]
    split
    · simpa using hbase
    · rename_i cur' held' load' cs' hp
      obtain ⟨g1, g2, g3, g4, ⟨c, g5, g6⟩, g7⟩ := place_spec hp
      have hne : cs' ≠ [] := by
        intro e
        rw [g3] at e
        have := congrArg List.length e
        rw [List.length_drop] at this
        simp at this
        omega
      have ih := alongF_count (limit := limit) r cur' (held' + 1) (load' + s.vol) cs' (by omega) (fun e => absurd e hne)
      simp only [List.length_cons]
      rcases g7 with ⟨e1, e2, e3⟩ | ⟨e1, e2, e3⟩
      · subst e1
        simp at g3; subst g3
        omega
      · have hl : cs'.length + 1 ≤ cs.length := by rw [g3, List.length_drop]; omega
        have hm := Nat.mul_le_mul_left limit hl
        rw [Nat.mul_add, Nat.mul_one] at hm
        omega
theorem rule_short {L : Nat} {l : List Stop} {caps : List Int} (h : L * caps.length < l.length) : (rule L l caps).length < l.length := by
  have := alongF_count (limit := L) l 0 0 0 caps (Nat.zero_le _) (fun _ => rfl)
  unfold rule
  omega
theorem limits_full {l : List Stop} {caps : List Int} {M : Nat} (h : M * caps.length < l.length) : ∀ n, n ≤ M → limits l caps n = (.zero, 4)
  | 0, _ => rfl
  | n + 1, hn => by
    have h1 : (n + 1) * caps.length ≤ M * caps.length := Nat.mul_le_mul_right _ hn
    rw [limits, if_pos (rule_short (by omega))]
    exact limits_full h n (by omega)
theorem alongF_all {L : Nat} {v : Int} (hL : 1 ≤ L) (hv : 0 ≤ v) : ∀ (l : List Stop) (cur held : Nat) (load : Int) (cs : List Int), (∀ s ∈ l, s.vol = v) → held ≤ L → load = held * v → (∀ c ∈ cs, (L : Int) * v ≤ c) → l.length + held ≤ L * cs.length → (alongF L l cur held load cs).length = l.length
  | [], _, _, _, _, _, _, _, _, _ => by simp [alongF]
  | s :: r, cur, held, load, cs, h1, h2, h3, h4, h5 => by
    have hs := h1 s List.mem_cons_self
    have hr := fun x hx => h1 x (List.mem_cons_of_mem _ hx)
    simp only [List.length_cons] at h5
    rcases cs with _ | ⟨c, cs⟩
    · simp at h5
    · have hc := h4 c List.mem_cons_self
      simp only [List.length_cons] at h5
      by_cases hlt : held < L
      · have hm : ((held : Int) + 1) * v ≤ (L : Int) * v := Int.mul_le_mul_of_nonneg_right (by omega) hv
        rw [Int.add_mul, Int.one_mul] at hm
        have hp : place L s.vol cur held load (c :: cs) = some (cur, held, load, c :: cs) := by rw [place, if_pos ⟨hlt, by rw [hs, h3]; omega⟩]
        rw [alongF, hp]
        simp only [List.length_cons]
        rw [alongF_all hL hv r cur (held + 1) (load + s.vol) (c :: cs) hr (by omega) (by rw [hs, h3, Int.natCast_add, Int.add_mul]; simp) h4 (by simp only [List.length_cons]; omega)]
      · have he : held = L := by omega
        rw [Nat.mul_add, Nat.mul_one] at h5
        rcases cs with _ | ⟨c', cs⟩
        · simp at h5; omega
        · have hc' := h4 c' (List.mem_cons_of_mem _ List.mem_cons_self)
          have hm : (1 : Int) * v ≤ (L : Int) * v := Int.mul_le_mul_of_nonneg_right (by omega) hv
          rw [Int.one_mul] at hm
          have hp : place L s.vol cur held load (c :: c' :: cs) = some (cur + 1, 0, 0, c' :: cs) := by
            rw [place, if_neg (fun g => hlt g.1), place, if_pos ⟨by omega, by rw [hs]; omega⟩]
          rw [alongF, hp]
          simp only [List.length_cons]
          rw [alongF_all hL hv r (cur + 1) (0 + 1) (0 + s.vol) (c' :: cs) hr (by omega) (by rw [hs]; simp) (fun x hx => h4 x (List.mem_cons_of_mem _ hx)) (by omega)]
theorem incr_len : ∀ (l : List Int) (lo M : Int), l.Pairwise (· < ·) → (∀ x ∈ l, lo ≤ x ∧ x < M) → l.length ≤ (M - lo).toNat
  | [], _, _, _, _ => Nat.zero_le _
  | x :: r, lo, M, hp, hb => by
    have h1 := hb x List.mem_cons_self
    have hp' := List.pairwise_cons.1 hp
    have ih := incr_len r (x + 1) M hp'.2 (fun y hy => ⟨by have := hp'.1 y hy; omega, (hb y (List.mem_cons_of_mem _ hy)).2⟩)
    simp only [List.length_cons]
    omega
theorem loadOf_eq {g : Seat → Int} {k : Nat} {v : Int} : ∀ {l : List Seat}, (∀ s ∈ l, s.vol = v) → loadOf g k l = ((l.filter fun s => (g s).toNat = k).length : Int) * v
  | [], _ => by simp [loadOf]
  | s :: r, h => by
    have ih := loadOf_eq (g := g) (k := k) (l := r) (fun x hx => h x (List.mem_cons_of_mem _ hx))
    have hs := h s List.mem_cons_self
    rw [loadOf, ih]
    by_cases e : (g s).toNat = k
    · rw [if_pos e, List.filter_cons_of_pos (by simpa using e), List.length_cons, Int.natCast_add, Int.add_mul, hs]
      simp only [Int.cast_ofNat_Int, Int.one_mul]; omega
    · rw [if_neg e, List.filter_cons_of_neg (by simpa using e)]; omega
theorem equal_over {L : Nat} {v C : Int} {l : List Stop} {s : Nat} (hv : 0 ≤ v) (hvol : ∀ x ∈ l, x.vol = v) (hL : L ≤ s) (hC : (s : Int) * v ≤ C) :
    overF 0 (List.replicate s C) (loadsF Seat.first (List.replicate s C).length (rule L l (List.replicate s C))) (loadsF Seat.second (List.replicate s C).length (rule L l (List.replicate s C))) = none := by
  rw [overF_none (by rw [loadsF_len]) (by rw [loadsF_len])]
  intro k c f t hc hf ht
  have hk : k < (List.replicate s C).length := (List.getElem?_eq_some_iff.1 hc).1
  have hlen : (List.replicate s C).length = s := List.length_replicate
  obtain rfl : C = c := by
    have : (List.replicate s C)[k]? = some C := by rw [List.getElem?_replicate, if_pos (by omega)]
    rw [this] at hc; cases hc; rfl
  rw [loadsF_get _ hk] at hf ht
  cases hf; cases ht
  have hrg := alongF_range (limit := L) (n := s) l 0 0 0 (List.replicate s C) (by simp)
  have hpw := alongF_pairwise (limit := L) l 0 0 0 (List.replicate s C)
  have hvs : ∀ x ∈ rule L l (List.replicate s C), x.vol = v := fun x hx => by
    obtain ⟨_, _, t, h1, _, h2⟩ := hrg x hx
    rw [h2]; exact hvol t h1
  rw [loadOf_eq hvs, loadOf_eq hvs]
  have hb1 : ((rule L l (List.replicate s C)).filter fun x => (Seat.first x).toNat = k).length ≤ s := by
    have h1 : (((rule L l (List.replicate s C)).filter fun x => (Seat.first x).toNat = k).map Seat.second).Pairwise (· < ·) := by
      refine List.pairwise_map.2 (List.Pairwise.imp_of_mem ?_ (hpw.filter _))
      intro a b ha hb hab
      have ha' := List.mem_filter.1 ha
      have hb' := List.mem_filter.1 hb
      have e1 : (Seat.first a).toNat = k := by simpa using ha'.2
      have e2 : (Seat.first b).toNat = k := by simpa using hb'.2
      have r1 := (hrg a ha'.1).1
      have r2 := (hrg b hb'.1).1
      unfold lexLt at hab
      omega
    have h2 := incr_len _ 0 s h1 (fun x hx => by
      obtain ⟨y, hy, rfl⟩ := List.mem_map.1 hx
      have := (hrg y (List.mem_filter.1 hy).1).2.1
      omega)
    rw [List.length_map] at h2
    omega
  have hb2 : ((rule L l (List.replicate s C)).filter fun x => (Seat.second x).toNat = k).length ≤ s := by
    have h1 : (((rule L l (List.replicate s C)).filter fun x => (Seat.second x).toNat = k).map Seat.first).Pairwise (· < ·) := by
      refine List.pairwise_map.2 (List.Pairwise.imp_of_mem ?_ (hpw.filter _))
      intro a b ha hb hab
      have ha' := List.mem_filter.1 ha
      have hb' := List.mem_filter.1 hb
      have e1 : (Seat.second a).toNat = k := by simpa using ha'.2
      have e2 : (Seat.second b).toNat = k := by simpa using hb'.2
      have r1 := (hrg a ha'.1).2.1
      have r2 := (hrg b hb'.1).2.1
      unfold lexLt at hab
      omega
    have h2 := incr_len _ 0 L h1 (fun x hx => by
      obtain ⟨y, hy, rfl⟩ := List.mem_map.1 hx
      have := (hrg y (List.mem_filter.1 hy).1).1
      omega)
    rw [List.length_map] at h2
    omega
  have m1 := Int.mul_le_mul_of_nonneg_right (Int.ofNat_le.2 hb1) hv
  have m2 := Int.mul_le_mul_of_nonneg_right (Int.ofNat_le.2 hb2) hv
  constructor <;> omega
theorem equal_ok {s n : Nat} {v C : Int} (hs : 1 ≤ s ∧ s ≤ 30) (hv : 1 ≤ v ∧ v ≤ 100) (hC : (s : Int) * v ≤ C ∧ C ≤ 100000) (hn : n ≤ s * s) : ∃ p, makeF (stopsN v n) (List.replicate s C) = (p, 0) ∧ Good (stopsN v n) (List.replicate s C) p := by
  have hss : s * s ≤ 30 * 30 := Nat.mul_le_mul hs.2 hs.2
  have hsv : (1 : Int) * v ≤ (s : Int) * v := Int.mul_le_mul_of_nonneg_right (by omega) (by omega)
  have hm : machineOk (List.replicate s C) := ⟨by simp; omega, fun c hc => by rw [List.eq_of_mem_replicate hc]; omega⟩
  have hr := stopsN_route hv (n := n) (by omega)
  have hlen := stopsN_len v n
  rcases makeF_spec hm hr (by omega) with he | h
  · exfalso
    unfold makeF at he
    rw [if_neg (fun h => h hm), if_neg (by omega), wrongF_none.2 hr] at he
    simp only [] at he
    by_cases h0 : stopsN v n = []
    · rw [if_pos h0] at he
      have := congrArg Prod.snd he
      simp at this
    · rw [if_neg h0] at he
      have hn1 : 1 ≤ n := by
        have := List.length_pos_iff.2 h0
        omega
      have hcl : (List.replicate s C).length = s := List.length_replicate
      rw [hcl, hlen] at he
      obtain ⟨L, hL⟩ : ∃ L, min s n = L + 1 := ⟨min s n - 1, by omega⟩
      rw [hL, limits] at he
      have hcap : ∀ c ∈ List.replicate s C, ((L + 1 : Nat) : Int) * v ≤ c := fun c hc => by
        rw [List.eq_of_mem_replicate hc]
        have := Int.mul_le_mul_of_nonneg_right (a := ((L + 1 : Nat) : Int)) (b := (s : Int)) (c := v) (by omega) (by omega)
        omega
      have hfit : n ≤ (L + 1) * s := by
        by_cases hns : n ≤ s
        · have : L + 1 = n := by omega
          rw [this]
          have := Nat.mul_le_mul_left n hs.1
          omega
        · have : L + 1 = s := by omega
          rw [this]; exact hn
      have hfull : (rule (L + 1) (stopsN v n) (List.replicate s C)).length = n := by
        unfold rule
        rw [alongF_all (v := v) (by omega) (by omega) _ 0 0 0 _ (fun s hs => stopsN_vol hs) (by omega) (by simp) hcap (by rw [hlen, hcl]; omega), hlen]
      rw [if_neg (by rw [hfull, hlen]; omega), equal_over (v := v) (by omega) (fun x hx => stopsN_vol hx) (by omega) hC.1] at he
      have := congrArg Prod.snd he
      simp at this
  · exact h
theorem equal_full {s n : Nat} {v C : Int} (hs : 1 ≤ s ∧ s ≤ 30) (hv : 1 ≤ v ∧ v ≤ 100) (hC : (s : Int) * v ≤ C ∧ C ≤ 100000) (hn : s * s < n) (hn2 : n ≤ 1000) : makeF (stopsN v n) (List.replicate s C) = (.zero, 4) := by
  have hsv : (1 : Int) * v ≤ (s : Int) * v := Int.mul_le_mul_of_nonneg_right (by omega) (by omega)
  have hm : machineOk (List.replicate s C) := ⟨by simp; omega, fun c hc => by rw [List.eq_of_mem_replicate hc]; omega⟩
  have hr := stopsN_route hv (n := n) hn2
  have hlen := stopsN_len v n
  have h0 : stopsN v n ≠ [] := fun h => by have := congrArg List.length h; rw [hlen] at this; simp at this; omega
  unfold makeF
  rw [if_neg (fun h => h hm), if_neg (by omega), wrongF_none.2 hr]
  simp only []
  rw [if_neg h0]
  exact limits_full (M := s) (by rw [List.length_replicate, hlen]; exact hn) _ (by rw [List.length_replicate]; omega)
end Go.Sx.Seq
