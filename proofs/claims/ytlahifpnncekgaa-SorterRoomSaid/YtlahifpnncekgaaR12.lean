/- Items within the volumes of their stops, chosen one by one. Plain laws, no program in sight. -/
import Derived.Test.YtlahifpnncekgaaRR
set_option linter.unusedSimpArgs false
set_option linter.unusedVariables false
namespace Go.Sx.Srt
open Go.Sx.Seq (findF loadOf)
def ixI (p : Seq.Plan) (y : It) : Int := (seatIx p y.stop : Int)
def keepF (p : Seq.Plan) (K : List It) (y : It) : List It := match findF p.seats y.stop with
  | none => K
  | some t => if (((K.map (ixI p)).count (ixI p y) : Nat) : Int) < t.vol then K ++ [y] else K
def someF (p : Seq.Plan) (items : List It) : List It := items.foldl (keepF p) []
theorem someF_snoc (p : Seq.Plan) (l : List It) (y : It) : someF p (l ++ [y]) = keepF p (someF p l) y := by simp [someF]
structure KOk (p : Seq.Plan) (K l : List It) : Prop where
  sub : K.Sublist l
  fnd : ∀ x ∈ K, ∃ t, findF p.seats x.stop = some t
  vol : ∀ t ∈ p.seats, ((K.map It.stop).count t.stop : Int) ≤ t.vol
theorem findF_self {p : Seq.Plan} (h : POk p) {t : Seq.Seat} (ht : t ∈ p.seats) : findF p.seats t.stop = some t := by
  cases hf : findF p.seats t.stop with
  | none =>
    unfold findF at hf
    have := List.find?_eq_none.1 hf t ht
    simp at this
  | some u =>
    obtain ⟨h1, h2⟩ := findF_mem hf
    obtain ⟨i, hi⟩ := List.getElem?_of_mem h1
    obtain ⟨j, hj⟩ := List.getElem?_of_mem ht
    have e1 : (p.seats.map Seq.Seat.stop)[i]? = some t.stop := by rw [List.getElem?_map, hi]; simp [h2]
    have e2 : (p.seats.map Seq.Seat.stop)[j]? = some t.stop := by rw [List.getElem?_map, hj]; rfl
    have := (List.getElem?_inj (List.getElem?_eq_some_iff.1 e1).1 h.nd).1 (e1.trans e2.symm)
    subst this
    rw [hi] at hj
    exact hj
theorem ix_eq {p : Seq.Plan} {x y : It} {t u : Seq.Seat} (hx : findF p.seats x.stop = some t) (hy : findF p.seats y.stop = some u) : ixI p x = ixI p y ↔ x.stop = y.stop := by
  constructor
  · intro h
    unfold ixI at h
    have e : seatIx p x.stop = seatIx p y.stop := by omega
    have h1 := seatIx_get hx
    have h2 := seatIx_get hy
    rw [e, h2] at h1
    cases h1
    rw [← (findF_mem hx).2, (findF_mem hy).2]
  · intro h
    unfold ixI
    rw [h]
theorem count_ix {p : Seq.Plan} {K : List It} (hf : ∀ x ∈ K, ∃ t, findF p.seats x.stop = some t) {y : It} {u : Seq.Seat} (hy : findF p.seats y.stop = some u) : (K.map (ixI p)).count (ixI p y) = (K.map It.stop).count y.stop := by
  rw [List.count_eq_countP, List.count_eq_countP, List.countP_map, List.countP_map]
  apply List.countP_congr
  intro x hx
  obtain ⟨t, ht⟩ := hf x hx
  have := ix_eq ht hy
  simp only [Function.comp, beq_iff_eq]
  exact this
theorem KOk.nil (p : Seq.Plan) (h : ∀ t ∈ p.seats, 0 ≤ t.vol) : KOk p [] [] := ⟨List.Sublist.refl _, by simp, fun t ht => by simpa using h t ht⟩
theorem KOk.skip {p : Seq.Plan} {K l : List It} (h : KOk p K l) (y : It) : KOk p K (l ++ [y]) := ⟨h.sub.trans (List.sublist_append_left _ _), h.fnd, h.vol⟩
theorem KOk.take {p : Seq.Plan} (hp : POk p) {K l : List It} (h : KOk p K l) {y : It} {u : Seq.Seat} (hy : findF p.seats y.stop = some u) (hc : (((K.map (ixI p)).count (ixI p y) : Nat) : Int) < u.vol) : KOk p (K ++ [y]) (l ++ [y]) := by
  refine ⟨h.sub.append (List.Sublist.refl _), fun x hx => ?_, fun t ht => ?_⟩
  · rcases List.mem_append.1 hx with hx | hx
    · exact h.fnd x hx
    · simp at hx; subst hx; exact ⟨u, hy⟩
  · rw [List.map_append, List.count_append]
    have h1 := h.vol t ht
    rw [count_ix h.fnd hy] at hc
    by_cases e : t.stop = y.stop
    · have h2 := findF_self hp ht
      rw [e, hy] at h2
      cases h2
      rw [e]
      simp only [List.map_cons, List.map_nil, List.count_cons_self, List.count_nil]
      omega
    · have : ([y].map It.stop).count t.stop = 0 := by
        rw [List.count_eq_zero]
        simp [e]
      rw [this]
      omega
theorem KOk.keep {p : Seq.Plan} (hp : POk p) {K l : List It} (h : KOk p K l) (y : It) : KOk p (keepF p K y) (l ++ [y]) := by
  unfold keepF
  cases hy : findF p.seats y.stop with
  | none => exact h.skip y
  | some u =>
    simp only []
    split
    · rename_i hc; exact h.take hp hy hc
    · exact h.skip y
theorem someF_ok {p : Seq.Plan} (hp : POk p) (hv : ∀ t ∈ p.seats, 0 ≤ t.vol) : ∀ l : List It, KOk p (someF p l) l := by
  apply list_snoc
  · exact KOk.nil p hv
  · intro l x h
    rw [someF_snoc]
    exact h.keep hp x
theorem ItsOk.sub {K l : List It} (h : ItsOk l) (hs : K.Sublist l) : ItsOk K :=
  ⟨List.Nodup.sublist (hs.map _) h.nd, fun x hx => h.rng x (hs.subset hx), Nat.le_trans hs.length_le h.len⟩
theorem vols' {l : List Seq.Stop} {caps : List Int} {p : Seq.Plan} (h : Seq.Good l caps p) (hr : Seq.routeFrom [] l) : ∀ s ∈ p.seats, 0 ≤ s.vol := fun s hs => by
  have := hr.1 s.asStop (by rw [← h.stops]; exact List.mem_map.2 ⟨s, hs, rfl⟩)
  unfold Seq.Stop.ok Seq.Seat.asStop at this
  simp only [] at this
  omega
theorem Good.room {l : List Seq.Stop} {caps : List Int} {p : Seq.Plan} (h : Seq.Good l caps p) (hr : Seq.routeFrom [] l) {K : List It} (hk : ∀ t ∈ p.seats, ((K.map It.stop).count t.stop : Int) ≤ t.vol) : Room p K := by
  have hv := vols' h hr
  have ho := (Seq.overF_none (by rw [h.first_eq, Seq.loadsF_len]) (by rw [h.second_eq, Seq.loadsF_len])).1 h.over
  refine ⟨fun t ht => ⟨hk t ht, hv t ht⟩, fun k hkc => ?_, fun k hkc => ?_⟩
  · rw [h.caps_eq] at hkc ⊢
    have hc := List.getElem?_eq_getElem hkc
    have := ho k _ _ _ hc (by rw [h.first_eq]; exact Seq.loadsF_get _ hkc _) (by rw [h.second_eq]; exact Seq.loadsF_get _ hkc _)
    simpa [hc] using this.1
  · rw [h.caps_eq] at hkc ⊢
    have hc := List.getElem?_eq_getElem hkc
    have := ho k _ _ _ hc (by rw [h.first_eq]; exact Seq.loadsF_get _ hkc _) (by rw [h.second_eq]; exact Seq.loadsF_get _ hkc _)
    simpa [hc] using this.2
theorem Good.within {l : List Seq.Stop} {caps : List Int} {p : Seq.Plan} (h : Seq.Good l caps p) {K : List It} (hf : ∀ x ∈ K, ∃ t, findF p.seats x.stop = some t) (hk : ∀ t ∈ p.seats, ((K.map It.stop).count t.stop : Int) ≤ t.vol) (hl : K.length ≤ 2000) : Seq.Within l (K.map It.stop) := by
  have hst := h.stops
  refine ⟨fun x hx => ?_, fun s hs => ?_, by simpa using hl⟩
  · obtain ⟨y, hy, rfl⟩ := List.mem_map.1 hx
    obtain ⟨t, ht⟩ := hf y hy
    obtain ⟨h1, h2⟩ := findF_mem ht
    exact ⟨t.asStop, by rw [← hst]; exact List.mem_map.2 ⟨t, h1, rfl⟩, h2⟩
  · rw [← hst] at hs
    obtain ⟨t, ht, rfl⟩ := List.mem_map.1 hs
    exact hk t ht
end Go.Sx.Srt
