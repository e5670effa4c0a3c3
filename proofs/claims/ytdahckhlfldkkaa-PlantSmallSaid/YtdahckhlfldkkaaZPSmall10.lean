/- A part of the proofs of this seat: a small logic of walks, plain laws, and what some of the program's functions compute, shown by walks through their code. Conditions: the hypotheses that each theorem names. -/
import Derived.Test.YtdahckhlfldkkaaZPSmall3
import Derived.Test.YtdahckhlfldkkaaZPSmall9
import Derived.Test.YtdahckhlfldkkaaZPSmall4
import Derived.Test.YtdahckhlfldkkaaZPSmall6
set_option linter.unusedSimpArgs false
set_option linter.unusedVariables false
set_option linter.unusedSectionVars false
namespace Go.Sx.Plt
open Go.Proofs.Ytdahckhlfldkkaa (zh5 psF tkF zl3 zi7 take_snoc)
def stF (p : g8) (y : za3) : Nat → Int
  | 0 => y.rel
  | k + 1 => match p.passes[k]? with
    | some z => if z.mach = y.mach ∧ stF p y k < zx0 p k then zx0 p k else stF p y k
    | none => stF p y k
theorem yb3 {p : g8} {y : za3} : ∀ k, y.rel ≤ stF p y k ∧ (∀ (j : Nat) (z : za3), j < k → p.passes[j]? = some z → z.mach = y.mach → zx0 p j ≤ stF p y k) ∧
    (stF p y k = y.rel ∨ ∃ (j : Nat) (z : za3), j < k ∧ p.passes[j]? = some z ∧ z.mach = y.mach ∧ zx0 p j = stF p y k)
  | 0 => ⟨Int.le_refl _, fun j z h => by omega, .inl rfl⟩
  | k + 1 => by
    obtain ⟨h1, h2, h3⟩ := yb3 (p := p) (y := y) k
    rw [stF]
    cases hk : p.passes[k]? with
    | none =>
      dsimp only
      refine ⟨h1, fun j z hj hz hm => ?_, ?_⟩
      · by_cases e : j = k
        · subst e; rw [hk] at hz; cases hz
        · exact h2 j z (by omega) hz hm
      · rcases h3 with h3 | ⟨j, z, hj, hz⟩
        · exact .inl h3
        · exact .inr ⟨j, z, by omega, hz⟩
    | some a =>
      dsimp only
      by_cases hc : a.mach = y.mach ∧ stF p y k < zx0 p k
      · rw [if_pos hc]
        refine ⟨by omega, fun j z hj hz hm => ?_, .inr ⟨k, a, by omega, hk, hc.1, rfl⟩⟩
        by_cases e : j = k
        · subst e; exact Int.le_refl _
        · have := h2 j z (by omega) hz hm; omega
      · rw [if_neg hc]
        refine ⟨h1, fun j z hj hz hm => ?_, ?_⟩
        · by_cases e : j = k
          · subst e; rw [hk] at hz; cases hz
            exact Int.not_lt.1 fun g => hc ⟨hm, g⟩
          · exact h2 j z (by omega) hz hm
        · rcases h3 with h3 | ⟨j, z, hj, hz⟩
          · exact .inl h3
          · exact .inr ⟨j, z, by omega, hz⟩
theorem yF7 {p : g8} (hv : Valid p) {y : za3} (h0 : 0 ≤ y.rel) (i : Nat) : stF p y i = max y.rel ((asF y.mach (za0 p i).free).getD 0) := by
  obtain ⟨h1, h2, h3⟩ := yb3 (p := p) (y := y) i
  obtain ⟨f1, f2, f3⟩ := free_spec hv i y.mach
  generalize (asF y.mach (za0 p i).free).getD 0 = F at *
  have hF : F ≤ stF p y i := by
    rcases f3 with f3 | ⟨j, z, hj, hz, hm, he⟩
    · omega
    · have := h2 j z hj hz hm; omega
  rcases h3 with h3 | ⟨j, z, hj, hz, hm, he⟩
  · omega
  · have := f2 j z hj hz hm; omega
theorem yH4 {p : g8} (hv : Valid p) {y : za3} (h0 : 0 ≤ y.rel ∧ y.rel ≤ 1051898399) (k : Nat) : 0 ≤ stF p y k ∧ stF p y k ≤ 1051898399 := by
  obtain ⟨h1, _, h3⟩ := yb3 (p := p) (y := y) k
  rcases h3 with h3 | ⟨j, z, hj, hz, hm, he⟩
  · omega
  · have := fin_bd hv j; omega
theorem ym0 {h : Hall} {start : Int} {items : List Int} {s : Int × Int} {r : List (Int × Int)} (h0 : s.1 = 0) : za4 h start items (s :: r) = za4 h start (items ++ h.row s) r := by
  rw [za4, if_neg (by simp [h0])]
theorem yt2 {h : Hall} {start e : Int} {items : List Int} {s : Int × Int} {r : List (Int × Int)} (h0 : s.1 ≠ 0) (he : asF s.1 h.ends = some e) : za4 h start items (s :: r) = za4 h (max start e) (items ++ h.row s) r := by
  rw [za4, if_pos h0, he]
theorem yt1 {h : Hall} {start : Int} {items : List Int} {s : Int × Int} {r : List (Int × Int)} (h0 : s.1 ≠ 0) (he : asF s.1 h.ends = none) : za4 h start items (s :: r) = none := by
  rw [za4, if_pos h0, he]
theorem Valid.pnd {p : g8} (hv : Valid p) {i j : Nat} {y z : za3} (hy : p.passes[i]? = some y) (hz : p.passes[j]? = some z) (he : y.id = z.id) : i = j := by
  have key : ∀ (a b : Nat) (u v : za3), p.passes[a]? = some u → p.passes[b]? = some v → a < b → u.id ≠ v.id := fun a b u v hu hw hab e => by
    have h1 := (hv.pok b v hw).1.1.1
    rw [zj1] at h1
    have hm : u.id ∈ (psF (zf5 p.ms) (p.passes.take b)).map Prod.fst := by
      rw [zx7]
      exact List.mem_map.2 ⟨u, List.mem_of_getElem? (i := a) (by rw [List.getElem?_take_of_lt hab]; exact hu), rfl⟩
    obtain ⟨q, hq, e2⟩ := List.mem_map.1 hm
    exact h1 q hq (by rw [e2, e])
  rcases Nat.lt_trichotomy i j with g | g | g
  · exact absurd he (key i j y z hy hz g)
  · exact g
  · exact absurd he.symm (key j i z y hz hy g)
theorem Valid.pass_id {p : g8} (hv : Valid p) {i : Nat} {y : za3} (hy : p.passes[i]? = some y) {r : Run} (hr : (za2 p)[i]? = some r) : r.pass = y.id := by
  obtain ⟨k, m, _, _, _, _, _, _, h⟩ := hv.run hy hr
  rcases h with h | ⟨_, h⟩
  · rw [h.eq]; rfl
  · exact h.pass
theorem zR3 {s : Int × Int} (hs : 0 ≤ s.2) (r : Run) : zM3 s r = if r.pass = s.1 then r.res.stackers.getD s.2.toNat [] else [] := by
  unfold zM3
  by_cases h1 : r.pass = s.1
  · rw [if_pos h1]
    by_cases h2 : s.2 < r.res.stackers.length
    · rw [if_pos ⟨h1, h2⟩]
    · rw [if_neg (fun g => h2 g.2), List.getD_eq_getElem?_getD, List.getElem?_eq_none (by omega)]; rfl
  · rw [if_neg h1, if_neg (fun g => h1 g.1)]
theorem zK0 {α : Type} {f : α → List Int} : ∀ {l : List α}, (∀ x ∈ l, f x = []) → l.flatMap f = []
  | [], _ => rfl
  | a :: l, h => by rw [List.flatMap_cons, h a (by simp), zK0 (fun x hx => h x (by simp [hx]))]; rfl
theorem zQ1 {α : Type} {f : α → List Int} {l : List α} {j : Nat} {r : α} (hj : l[j]? = some r) : ∀ (i : Nat), j < i → (∀ (k : Nat) (x : α), k < i → l[k]? = some x → k ≠ j → f x = []) → (l.take i).flatMap f = f r
  | 0, h, _ => by omega
  | i + 1, h, hk => by
    by_cases e : j = i
    · subst e
      rw [take_snoc hj, List.flatMap_append, zK0 (fun x hx => ?_)]
      · simp
      · obtain ⟨k, hkx⟩ := List.getElem?_of_mem hx
        have hkl := (List.getElem?_eq_some_iff.1 hkx).1
        rw [List.length_take] at hkl
        rw [List.getElem?_take_of_lt (by omega)] at hkx
        exact hk k x (by omega) hkx (by omega)
    · cases hx : l[i]? with
      | none => rw [List.take_add_one, hx]; simp only [Option.toList_none, List.append_nil]; exact zQ1 hj i (by omega) fun k x hki hkx hne => hk k x (by omega) hkx hne
      | some x =>
        rw [take_snoc hx, List.flatMap_append, zQ1 hj i (by omega) fun k x hki hkx hne => hk k x (by omega) hkx hne]
        have := hk i x (by omega) hx (by omega)
        simp [this]
theorem ys1 {p : g8} (hv : Valid p) (i : Nat) {b : Int} (hb : 0 ≤ b) : (za0 p i).row (0, b) = ze1 p.items (0, b) := by
  rw [hv.rows hb i, zK0, List.append_nil]
  intro r hr
  obtain ⟨k, hk⟩ := List.getElem?_of_mem hr
  have hkl := (List.getElem?_eq_some_iff.1 hk).1
  rw [List.length_take, zh6] at hkl
  rw [List.getElem?_take_of_lt (by omega)] at hk
  obtain ⟨y, hy⟩ : ∃ y, p.passes[k]? = some y := ⟨_, List.getElem?_eq_getElem (by omega)⟩
  rw [zR3 hb, if_neg]
  have h1 := hv.pass_id hy hk
  have h2 := (hv.pok k y hy).1.2.1
  unfold zB5 at h2
  dsimp only
  omega
theorem yy6 {p : g8} (hv : Valid p) {i j : Nat} {z : za3} {r : Run} {s : Int × Int} (hj : j < i) (hz : p.passes[j]? = some z) (hr : (za2 p)[j]? = some r) (hid : z.id = s.1) (h0 : s.1 ≠ 0) (hs : 0 ≤ s.2) : (za0 p i).row s = r.res.stackers.getD s.2.toNat [] := by
  rw [hv.rows hs i, zQ1 hr i hj]
  · rw [zR3 hs, if_pos (by rw [hv.pass_id hz hr, hid])]
    unfold ze1
    rw [if_neg h0]; rfl
  · intro k x hk hx hne
    obtain ⟨u, hu⟩ : ∃ y, p.passes[k]? = some y := ⟨_, List.getElem?_eq_getElem (by have := (List.getElem?_eq_some_iff.1 hx).1; rw [zh6] at this; omega)⟩
    rw [zR3 hs, if_neg]
    rw [hv.pass_id hu hx, ← hid]
    exact fun e => hne (hv.pnd hu hz e)
theorem yA7 {p : g8} (hv : Valid p) {i j : Nat} {z : za3} {x : Int} (hj : j < i) (hz : p.passes[j]? = some z) (hid : z.id = x) (h0 : 0 ≤ zx0 p j) : asF x (za0 p i).ends = some (zx0 p j) := (zJ9 hv i x _).2 ⟨j, z, hj, hz, hid, rfl, h0⟩
theorem yA8 {p : g8} (hv : Valid p) {i j : Nat} {z : za3} {x : Int} (hz : p.passes[j]? = some z) (hid : z.id = x) (h0 : zx0 p j < 0) : asF x (za0 p i).ends = none := by
  cases he : asF x (za0 p i).ends with
  | none => rfl
  | some e =>
    obtain ⟨k, u, hk, hu, hui, hf, h1⟩ := (zJ9 hv i x e).1 he
    have := hv.pnd hz hu (by rw [hid, hui])
    subst this
    omega
theorem yw6 {n : Nat} {r : Int} (hr : 1 ≤ r) : (if (n : Int) / r * r < n then (n : Int) / r + 1 else (n : Int) / r) = zb3 n r := by
  unfold zb3
  have h1 := zH8 (k := (n : Int) / r) (n := n) hr
  have h2 := zH8 (k := (n : Int) / r + 1) (n := n) hr
  have h3 := zH8 (k := (n : Int) / r - 1) (n := n) hr
  have h4 : (n : Int) < ((n : Int) / r + 1) * r := Int.lt_ediv_add_one_mul_self _ (by omega)
  have h5 : (n : Int) / r * r ≤ n := Int.ediv_mul_le _ (by omega)
  have h6 : ((n : Int) / r - 1) * r = (n : Int) / r * r - r := by rw [Int.sub_mul, Int.one_mul]
  split
  · rename_i h; omega
  · rename_i h; omega
theorem zC6 (t : Int) : ∀ l : List Sh, g9 t 0 l = []
  | [] => rfl
  | s :: r => by rw [g9, if_pos (.inl rfl), zC6 t r]
theorem zy1 : ∀ a b : List (Int × Int), zb8 (a ++ b) = zb8 a + zb8 b
  | [], b => by simp [zb8]
  | s :: a, b => by rw [List.cons_append, zb8, zb8, zy1 a b]; omega
theorem yg6 {t left : Int} {s : Sh} {r : List Sh} (hl : 0 < left) : g9 t left (s :: r) = if max s.f t < min s.t (max s.f t + left) then (max s.f t, min s.t (max s.f t + left)) :: g9 t (left - (min s.t (max s.f t + left) - max s.f t)) r else g9 t left r := by
  rw [g9]
  by_cases h : s.t ≤ max s.f t
  · rw [if_pos (.inr h), if_neg (by omega)]
  · rw [if_neg (by omega), if_pos (by omega)]
theorem yh0 {items : List Item} {k : Nat} {x : Item} : (items.map Item.id).Nodup → items[k]? = some x → asF x.id (zc0 items) = some x.stop := by
  refine zn0 (p := fun items => (items.map Item.id).Nodup → items[k]? = some x → asF x.id (zc0 items) = some x.stop) (by simp) (fun l a ih hn hx => ?_) items
  rw [zC8, zj9]
  rw [List.map_append, List.nodup_append] at hn
  by_cases hk : k < l.length
  · rw [List.getElem?_append_left hk] at hx
    rw [if_neg (fun e => hn.2.2 x.id (List.mem_map.2 ⟨x, List.mem_of_getElem? hx, rfl⟩) a.id (by simp) e.symm)]
    exact ih hn.1 hx
  · rw [List.getElem?_append_right (by omega)] at hx
    obtain rfl : a = x := by
      cases hkk : k - l.length with
      | zero => rw [hkk] at hx; simpa using hx
      | succ n => rw [hkk] at hx; simp at hx
    rw [if_pos rfl]
theorem rows_nodup {n : Int} : ∀ {l : List Row} {met : List Int}, zf6 n met l → (l.map Row.stop).Nodup ∧ ∀ e ∈ l, e.stop ∉ met
  | [], _, _ => by simp
  | a :: l, met, h => by
    rw [zf6] at h
    obtain ⟨h1, h2⟩ := rows_nodup h.2
    refine ⟨?_, fun e he => ?_⟩
    · rw [List.map_cons, List.nodup_cons]
      refine ⟨fun hm => ?_, h1⟩
      obtain ⟨e, he, e2⟩ := List.mem_map.1 hm
      exact h2 e he (by rw [e2]; simp)
    · rcases List.mem_cons.1 he with rfl | he
      · exact h.1.1
      · exact fun hm => h2 e he (List.mem_append_left _ hm)
theorem yh1 {l : List Row} : (l.map Row.stop).Nodup → (∀ e ∈ l, asF e.stop (zg9 l) = some e.st) ∧ ∀ s, s ∉ l.map Row.stop → asF s (zg9 l) = none := by
  refine zn0 (p := fun l => (l.map Row.stop).Nodup → (∀ e ∈ l, asF e.stop (zg9 l) = some e.st) ∧ ∀ s, s ∉ l.map Row.stop → asF s (zg9 l) = none) (by simp [zg9, asF]) (fun l a ih hn => ?_) l
  rw [List.map_append, List.nodup_append] at hn
  obtain ⟨i1, i2⟩ := ih hn.1
  rw [zv6]
  refine ⟨fun e he => ?_, fun s hs => ?_⟩
  · rw [zj9]
    rcases List.mem_append.1 he with he | he
    · rw [if_neg (fun g => hn.2.2 e.stop (List.mem_map.2 ⟨e, he, rfl⟩) a.stop (by simp) g.symm)]
      exact i1 e he
    · simp at he; subst he; rw [if_pos rfl]
  · rw [zj9]
    rw [List.map_append, List.mem_append] at hs
    rw [if_neg (fun g => hs (.inr (by simp [g])))]
    exact i2 s fun g => hs (.inl g)
theorem yd3 {stops : List (Int × Int)} {y : za3} {x : Int} (h : x ∈ y.unread) : (zb9 stops y x).st = -1 := by
  unfold zb9
  split
  · simp [h]
  · rfl
theorem yv2 {p : g8} (hv : Valid p) {y : za3} (hn : (y.table.map Row.stop).Nodup) {k : Nat} {a : Item} (ha : p.items[k]? = some a) (hu : a.id ∉ y.unread) {e : Row} (he : e ∈ y.table) (hs : e.stop = a.stop) : (zb9 (zc0 p.items) y a.id).st = e.st := by
  rw [yn6 (yh0 hv.ind ha)]
  unfold toF
  rw [if_pos (by simp [hu]), ← hs, (yh1 hn).1 e he]; rfl
theorem yC0 {p : g8} (hv : Valid p) {y : za3} (hn : (y.table.map Row.stop).Nodup) {k : Nat} {a : Item} (ha : p.items[k]? = some a) (hu : a.id ∉ y.unread) (hs : a.stop ∉ y.table.map Row.stop) : (zb9 (zc0 p.items) y a.id).st = -1 := by
  rw [yn6 (yh0 hv.ind ha)]
  unfold toF
  rw [if_pos (by simp [hu]), (yh1 hn).2 _ hs]; rfl
end Go.Sx.Plt
namespace Go.Sx.Srt
open Go.Sx.Seq (zm3 zl8)
def zK2 : List Ev → Int → Int
  | [], _ => 0
  | e :: r, k => if e.st = k ∧ e.kind = 2 then 0 else (if e.st = k ∧ e.kind = 1 then 1 else 0) + zK2 r k
def zt4 (l : List Ev) (k : Int) : Int := zK2 l.reverse k
theorem zu9 (l : List Ev) (e : Ev) (k : Int) : zt4 (l ++ [e]) k = if e.st = k ∧ e.kind = 2 then 0 else (if e.st = k ∧ e.kind = 1 then 1 else 0) + zt4 l k := by
  unfold zt4
  rw [List.reverse_append]
  rfl
def zf4 (l : List Ev) (k : Int) : List Int := (l.filter fun e => e.st = k ∧ e.kind = 1).map Ev.item
def zk7 (l : List Ev) (k : Int) : Int := l.countP fun e => e.st = k ∧ e.kind = 2
def kindOf (l : List Ev) (k : Int) : List Int := (l.filter fun e => e.kind = k).map Ev.item
theorem zl7 (l : List Ev) (e : Ev) (k : Int) : zf4 (l ++ [e]) k = zf4 l k ++ if e.st = k ∧ e.kind = 1 then [e.item] else [] := by
  unfold zf4
  rw [List.filter_append, List.map_append]
  by_cases h : e.st = k ∧ e.kind = 1 <;> simp [h]
theorem zo9 (l : List Ev) (e : Ev) (k : Int) : zk7 (l ++ [e]) k = zk7 l k + if e.st = k ∧ e.kind = 2 then 1 else 0 := by
  unfold zk7
  rw [List.countP_append]
  by_cases h : e.st = k ∧ e.kind = 2 <;> simp [h]
theorem zh3 (l : List Ev) (e : Ev) (k : Int) : kindOf (l ++ [e]) k = kindOf l k ++ if e.kind = k then [e.item] else [] := by
  unfold kindOf
  rw [List.filter_append, List.map_append]
  by_cases h : e.kind = k <;> simp [h]
structure Told (caps : List Int) (m : M) : Prop where
  held : ∀ k : Nat, k < caps.length → zt4 m.evs k = m.held.getD k 0
  st : ∀ k : Nat, k < caps.length → zf4 m.evs k = m.stackers.getD k []
  sw : ∀ k : Nat, k < caps.length → zk7 m.evs k = m.swept.getD k 0
  ov : kindOf m.evs 3 = m.over
  rj : kindOf m.evs 4 = m.rej
theorem Told.new (caps : List Int) (s : Int) : Told caps (M.new caps.length s) :=
  ⟨fun k hk => by simp [M.new, zt4, zK2, hk], fun k hk => by simp [M.new, zf4, hk], fun k hk => by simp [M.new, zk7, hk], rfl, rfl⟩
theorem Told.take {caps : List Int} {m : M} {f : Fd} (h : Told caps m) (hz : Sz caps.length m) (hf : -1 ≤ f.st ∧ f.st < caps.length) : Told caps (zg2 caps m f) := by
  have z1 := hz.st
  have z2 := hz.sw
  have z3 := hz.hd
  rcases zu1 caps m f with ⟨h0, e⟩ | ⟨h0, _, e⟩ | ⟨h0, _, _, e⟩ | ⟨h0, _, _, e⟩ <;> rw [e]
  · refine ⟨fun k hk => ?_, fun k hk => ?_, fun k hk => ?_, ?_, ?_⟩
    · simp only [note, zu9, h.held k hk]; simp
    · simp only [note, zl7, h.st k hk]; simp
    · simp only [note, zo9, h.sw k hk]; simp
    · simp only [note, zh3, h.ov]; simp
    · simp only [note, zh3, h.rj]; simp
  · refine ⟨fun k hk => ?_, fun k hk => ?_, fun k hk => ?_, ?_, ?_⟩
    · simp only [note, ze0, zu9, h.held k hk, zh7, z3]
      by_cases g : f.st = (k : Int)
      · have gk : f.st.toNat = k := by omega
        simp [-List.getD_eq_getElem?_getD, g, gk, hk, Int.add_comm]
      · have gk : ¬ f.st.toNat = k := by omega
        simp [-List.getD_eq_getElem?_getD, g, gk]
    · simp only [note, ze0, zl7, h.st k hk, zp6, z1]
      by_cases g : f.st = (k : Int)
      · have gk : f.st.toNat = k := by omega
        simp [-List.getD_eq_getElem?_getD, g, gk, hk, Int.add_comm]
      · have gk : ¬ f.st.toNat = k := by omega
        simp [-List.getD_eq_getElem?_getD, g, gk]
    · simp only [note, ze0, zo9, h.sw k hk]; simp
    · simp only [note, ze0, zh3, h.ov]; simp
    · simp only [note, ze0, zh3, h.rj]; simp
  · have e2 : ∀ l : List Ev, l ++ [(⟨2, f.item, f.st⟩ : Ev), ⟨1, f.item, f.st⟩] = l ++ [(⟨2, f.item, f.st⟩ : Ev)] ++ [⟨1, f.item, f.st⟩] := fun l => by simp
    refine ⟨fun k hk => ?_, fun k hk => ?_, fun k hk => ?_, ?_, ?_⟩
    · simp only [note, ze0, e2, zu9, h.held k hk, zh7, zt2, List.length_set, z3]
      by_cases g : f.st = (k : Int)
      · have gk : f.st.toNat = k := by omega
        simp [-List.getD_eq_getElem?_getD, g, gk, hk, Int.add_comm]
      · have gk : ¬ f.st.toNat = k := by omega
        simp [-List.getD_eq_getElem?_getD, g, gk]
    · simp only [note, ze0, e2, zl7, h.st k hk, zp6, z1]
      by_cases g : f.st = (k : Int)
      · have gk : f.st.toNat = k := by omega
        simp [-List.getD_eq_getElem?_getD, g, gk, hk, Int.add_comm]
      · have gk : ¬ f.st.toNat = k := by omega
        simp [-List.getD_eq_getElem?_getD, g, gk]
    · simp only [note, ze0, e2, zo9, h.sw k hk, zh7, z2]
      by_cases g : f.st = (k : Int)
      · have gk : f.st.toNat = k := by omega
        simp [-List.getD_eq_getElem?_getD, g, gk, hk, Int.add_comm]
      · have gk : ¬ f.st.toNat = k := by omega
        simp [-List.getD_eq_getElem?_getD, g, gk]
    · simp only [note, ze0, e2, zh3, h.ov]; simp
    · simp only [note, ze0, e2, zh3, h.rj]; simp
  · refine ⟨fun k hk => ?_, fun k hk => ?_, fun k hk => ?_, ?_, ?_⟩
    · simp only [note, zu9, h.held k hk]; simp
    · simp only [note, zl7, h.st k hk]; simp
    · simp only [note, zo9, h.sw k hk]; simp
    · simp only [note, zh3, h.ov]; simp
    · simp only [note, zh3, h.rj]; simp
theorem zR4 {caps : List Int} {s : Int} : ∀ l : List Fd, (∀ f ∈ l, -1 ≤ f.st ∧ f.st < caps.length) → Told caps (za2 caps s l) := by
  refine zD4 ?_ ?_
  · intro _; exact Told.new _ _
  · intro l f ih hl
    rw [zz2]
    exact (ih fun x hx => hl x (List.mem_append_left _ hx)).take (zI2 _ _ _) (hl f (by simp))
def zB1 (caps : List Int) (o : List Ev × Int) (f : Fd) : List Ev × Int :=
  if f.st = -1 then (o.1 ++ [⟨4, f.item, -1⟩], o.2) else
  if zt4 o.1 f.st = caps.getD f.st.toNat 0 then
    if o.2 = 0 then (o.1 ++ [⟨3, f.item, f.st⟩], o.2) else (o.1 ++ [⟨2, f.item, f.st⟩, ⟨1, f.item, f.st⟩], o.2 - 1)
  else (o.1 ++ [⟨1, f.item, f.st⟩], o.2)
def evF (caps : List Int) (s : Int) (l : List Fd) : List Ev × Int := l.foldl (zB1 caps) ([], s)
theorem zH2 (caps : List Int) (s : Int) (l : List Fd) (f : Fd) : evF caps s (l ++ [f]) = zB1 caps (evF caps s l) f := by simp [evF]
theorem yI2 {caps : List Int} {s : Int} (hc : ∀ c ∈ caps, 1 ≤ c) (hs : 0 ≤ s) : ∀ l : List Fd, (∀ f ∈ l, -1 ≤ f.st ∧ f.st < caps.length) → evF caps s l = ((za2 caps s l).evs, (za2 caps s l).left) := by
  refine zD4 ?_ ?_
  · intro _; rfl
  · intro l f ih hl
    have hl' : ∀ f ∈ l, -1 ≤ f.st ∧ f.st < caps.length := fun x hx => hl x (List.mem_append_left _ hx)
    have hf := hl f (by simp)
    have hi := yr4 (s := s) hc hs (fun x hx => (hl' x hx).2)
    have ht := zR4 (s := s) l hl'
    rw [zz2, zH2, ih hl']
    generalize za2 caps s l = m at hi ht
    unfold zB1
    by_cases h1 : f.st = -1
    · rw [if_pos h1]
      have e : zg2 caps m f = note { m with rej := m.rej ++ [f.item] } [⟨4, f.item, -1⟩] := by unfold zg2; rw [if_pos (by omega)]
      rw [e]; rfl
    · rw [if_neg h1]
      have hk : f.st.toNat < caps.length := by omega
      have hh := ht.held _ hk
      have hb := hi.held _ hk
      have hl0 := hi.left0
      rw [show ((f.st.toNat : Nat) : Int) = f.st from by omega] at hh
      simp only []
      rw [hh]
      by_cases h2 : m.held.getD f.st.toNat 0 = caps.getD f.st.toNat 0
      · rw [if_pos h2]
        by_cases h3 : m.left = 0
        · have e : zg2 caps m f = note { m with over := m.over ++ [f.item] } [⟨3, f.item, f.st⟩] := by unfold zg2; rw [if_neg (by omega), if_neg (by omega), if_neg (by omega)]
          rw [if_pos h3, e]; rfl
        · have e : zg2 caps m f = ze0 (note { m with left := m.left - 1, held := m.held.set f.st.toNat 0, swept := zm3 m.swept f.st.toNat 1 } [⟨2, f.item, f.st⟩, ⟨1, f.item, f.st⟩]) f := by unfold zg2; rw [if_neg (by omega), if_neg (by omega), if_pos (by omega)]
          rw [if_neg h3, e]; rfl
      · have e : zg2 caps m f = ze0 (note m [⟨1, f.item, f.st⟩]) f := by unfold zg2; rw [if_neg (by omega), if_pos (by omega)]
        rw [if_neg h2, e]; rfl
end Go.Sx.Srt
namespace Go.Sx
open Go Go.RowKit
section
variable {P : Program} {n : Nat} {D : List Deferred} {w0 : World} {F : List (Nat × Value)} {L : List Ent} {J J1 : Made} {Φ : zf2} {X : Act → World → Prop} {kq : Nat} {ops : Array Oper}
variable {d : Tmp} {ty : TypeId} {pos : String} {af : Array Edge} {rest : List Oper}
theorem yy4 {x y : Operand} {m l v : Int} {t u : TypeId} (hx : ev F x = some (.int .i64 m)) (hy : ev F y = some (.int .i64 l)) (e : m - l = v) (hr : -9223372036854775808 ≤ v ∧ v ≤ 9223372036854775807) (hd : Nat.ble (d + 1) n = true) (h : St n D w0 ((d, .int .i64 v) :: F) L (WQ P ops w0 L Φ X (kq + 1) J rest)) : St n D w0 F L (WQ P ops w0 L Φ X kq J (⟨some d, .binOp .sub t x y u, ty, pos, af, none⟩ :: rest)) := by subst e; exact yL5 hx hy hd hr h
end
end Go.Sx
namespace Go.Sx.Srt
theorem yj1 (caps : List Int) (o : List Ev × Int) (f : Fd) : (zB1 caps o f).1.length ≤ o.1.length + 2 := by
  unfold zB1
  split
  · simp
  · split
    · split <;> simp
    · simp
theorem yn3 (caps : List Int) (s : Int) : ∀ l : List Fd, (evF caps s l).1.length ≤ 2 * l.length := by
  apply zD4
  · simp [evF]
  · intro l f h
    rw [zH2, List.length_append]
    have := yj1 caps (evF caps s l) f
    simp only [List.length_cons, List.length_nil]
    omega
theorem yu8 (caps : List Int) {s : Int} (hs : 0 ≤ s) : ∀ l : List Fd, 0 ≤ (evF caps s l).2 ∧ (evF caps s l).2 ≤ s := by
  apply zD4
  · simp [evF]; omega
  · intro l f h
    rw [zH2]
    unfold zB1
    split
    · exact h
    · split
      · split
        · exact h
        · dsimp only; omega
      · exact h
theorem yl8 (l : List Ev) (k : Int) : 0 ≤ zk7 l k ∧ zk7 l k ≤ l.length := by
  unfold zk7
  have := List.countP_le_length (p := fun e : Ev => decide (e.st = k ∧ e.kind = 2)) (l := l)
  omega
def yp0 (n : Nat) (l : List Ev) : M := ⟨(List.range n).map fun (k : Nat) => zf4 l k, (List.range n).map fun (k : Nat) => zk7 l k, kindOf l 3, kindOf l 4, l, [], 0⟩
structure yG2 (a b : M) : Prop where
  st : a.stackers = b.stackers
  sw : a.swept = b.swept
  ov : a.over = b.over
  rj : a.rej = b.rej
  ev : a.evs = b.evs
theorem yt3 {caps : List Int} {s : Int} {l : List Fd} (hc : ∀ c ∈ caps, 1 ≤ c) (hs : 0 ≤ s) (hl : ∀ f ∈ l, -1 ≤ f.st ∧ f.st < caps.length) : yG2 (yp0 caps.length (evF caps s l).1) (za2 caps s l) := by
  have ht := zR4 (s := s) l hl
  have hz := zI2 caps s l
  rw [yI2 hc hs l hl]
  refine ⟨?_, ?_, ht.ov, ht.rj, rfl⟩
  · show (List.range caps.length).map _ = _
    rw [yq5 hz.st]
    exact List.map_congr_left fun k hk => ht.st k (List.mem_range.1 hk)
  · show (List.range caps.length).map _ = _
    apply List.ext_getElem?
    intro k
    by_cases hk : k < caps.length
    · have h1 := ht.sw k hk
      rw [List.getElem?_map, List.getElem?_range hk, Option.map_some, h1, List.getD_eq_getElem?_getD, List.getElem?_eq_getElem (by rw [hz.sw]; exact hk), Option.getD_some]
    · rw [List.getElem?_eq_none (by simp; omega), List.getElem?_eq_none (by rw [hz.sw]; omega)]
end Go.Sx.Srt
namespace Go.Proofs.Ytdahckhlfldkkaa
open Go Go.Sx Go.RowKit
attribute [local irreducible] WL WC WQ WR WB WF QB St Exit.then Exit.inBlock Exit.noGoto bodyPost roundPost zc1 YR RG BM Calls B zc7 ze3
set_option maxHeartbeats 4000000 in
theorem yc4 {v : Value} {l : List Plt.Sh} (w : World) (h : SV w 2 zs8 v l) : Calls Try.prog 32 #[.slice none 0 0, v] w fun e w' => e = .returned (.tuple #[.int .i64 (Plt.zb7 [] l).1, .int .i64 (Plt.zb7 [] l).2]) ∧ Below w.heap.size w w' := by
  obtain ⟨a0, ca, rfl, hca, hop⟩ := h.open
  by_cases hb : 200 < l.length
  · rw [show Plt.zb7 [] l = (0, 5) by unfold Plt.zb7; rw [if_pos (.inr hb)]]
    refine za8 Try.func32 rfl Try.ntmps32 rfl (Rep.start w) ?_
    repeat' (first | (apply v8; exact rfl; exact dT_) | (apply p9; exact rfl; exact dF_; exact rfl; exact rfl) | (apply k9; exact rfl; exact dF_) | ((first | apply w9 | apply y8 | apply x8); exact rfl; exact rfl) | ((first | apply p3 | apply o8 | apply d9); exact rfl; exact rfl; exact rfl) | (apply o9; infer_instance; exact rfl; exact rfl) | ((first | apply s9 | apply x9 | apply z8 | apply s7 | apply s8 | apply w4 | apply z9 | apply w5)) | ((first | apply w6 | apply z6 | apply z0 | apply p5 | apply y0 | apply z7)))
    apply p8; apply zf9 Try.results32; exact rV_; exact rV_; intro w' hw
    exact ⟨rfl, hw.below (by simp)⟩
  have e0 : Plt.zb7 [] l = (match Plt.zi8 0 0 l with | some i => (i, 301) | none => (0, 0)) := by
    unfold Plt.zb7
    rw [if_neg (by simp; omega)]
    rfl
  rw [e0]
  refine za8 Try.func32 rfl Try.ntmps32 rfl (Rep.start w) ?_
  repeat' (first | (apply v9; exact rfl; exact dF_) | (apply p9; exact rfl; exact dF_; exact rfl; exact rfl) | (apply k9; exact rfl; exact dF_) | ((first | apply w9 | apply y8 | apply x8); exact rfl; exact rfl) | ((first | apply p3 | apply o8 | apply d9); exact rfl; exact rfl; exact rfl) | (apply o9; infer_instance; exact rfl; exact rfl) | ((first | apply s9 | apply x9 | apply z8 | apply s7 | apply s8 | apply w4 | apply z9 | apply w5)) | ((first | apply w6 | apply z6 | apply z0 | apply p5 | apply y0 | apply z7)))
  apply yA6
  repeat' (first | (apply v9; exact rfl; exact dF_) | ((first | apply w9 | apply y8 | apply x8); exact rfl; exact rfl) | ((first | apply p3 | apply o8 | apply d9); exact rfl; exact rfl; exact rfl) | (apply o9; infer_instance; exact rfl; exact rfl) | ((first | apply s9 | apply x9 | apply z8 | apply s7 | apply s8 | apply w4 | apply z9 | apply w5)) | ((first | apply w6 | apply z6 | apply z0 | apply p5 | apply y0 | apply z7)))
  apply j9 (σ := Nat) (Fs := fun i => [(8, .int .i64 i), (1, .slice a0 l.length ca)]) (Ls := fun _ => []) (I := fun i => i ≤ l.length ∧ Plt.zi8 0 0 l = Plt.zi8 (zt5 (l.take i)) i (l.drop i) ∧ 0 ≤ zt5 (l.take i)) (μ := fun i => l.length - i) (s0 := 0)
  · exact ⟨Nat.zero_le _, by simp [zt5], by simp [zt5]⟩
  · exact fS_
  · exact hS_
  rintro i ⟨hi, hw0, hl0⟩
  by_cases hlt : i < l.length
  · obtain ⟨⟨f, t⟩, hx⟩ : ∃ s, l[i]? = some s := ⟨_, List.getElem?_eq_getElem hlt⟩
    obtain ⟨b, off, cc, e, fz, rfl, hk, hp⟩ := hop (by omega)
    have h1 : ∀ j u, ([.int .i64 f, .int .i64 t] : List Value)[j]? = some u → cc[off + i * 2 + j]? = some u := hp.get hx
    have e1 : zt5 (l.take (i + 1)) = t := by rw [take_snoc hx, zG1]
    rw [drop_at hx, Plt.zi8] at hw0
    rcases i with _ | k
    · rw [show zt5 (l.take 0) = 0 by simp [zt5]] at hw0 hl0
      by_cases hok : Plt.Sh.ok 0 ⟨f, t⟩
      · rw [if_pos hok] at hw0
        unfold Plt.Sh.ok at hok
        dsimp only at hok hw0
        as_aux_lemma =>
          repeat' (first | ((first | apply w9 | apply y8 | apply x8); exact rfl; exact rfl) | (apply w7; first | refine u9 (h := ?_) | refine y9 (h := ?_) | refine w8 (h := ?_) | refine q6 (h := ?_) | refine q0 (h := ?_)) | ((first | apply p3 | apply o8 | apply d9); exact rfl; exact rfl; exact rfl) | ((first | apply j0 | apply ze5); exact rfl; exact rfl; exact rfl; (constructor <;> omega)) | (apply o7; exact rfl; intro _) | (apply q7; first | refine q8 (h := ?_) | refine q9 (h := ?_)) | (apply o9; infer_instance; exact rfl; exact rfl) | (apply m8; infer_instance; infer_instance; exact rfl; exact rfl; (first | exact rfl | omega); exact rfl; (first | assumption | omega | decide)) | ((first | apply s9 | apply x9 | apply z8 | apply s7 | apply s8 | apply w4 | apply z9 | apply w5)) | (apply v8; exact rfl; exact tT_) | (apply v9; exact rfl; exact fF_) | ((first | apply w6 | apply z6 | apply z0 | apply p5 | apply y0 | apply z7)) | ((apply p6 (id := 13) []); kernel_rfl; kernel_rfl) | (apply za6; try simp only [za9, List.cons_append, List.nil_append]) | ((first | apply i9 | apply n9 | apply m5); exact rfl; exact rfl) | (apply m0; first | refine k8 (h := ?_) | refine p7 (h := ?_) | refine m6 (h := ?_) | refine d8 (h := ?_) | refine d7 (h := ?_)) | ((first | apply ze6 | apply zh4 | apply zm1); exact rfl; exact rfl; exact rfl) | (apply zh9; exact rfl; exact fF_; exact rfl; exact rfl) | ((first | apply zt3); exact rfl; exact gG_) | (apply zv7; exact rfl; exact gG_; exact rfl))
          all_goals first
            | (exfalso; omega)
            | skip
          refine o0 (0 + 1) ⟨by omega, by rw [e1]; exact hw0, by rw [e1]; omega⟩ (by omega) ?_ ?_
          · exact fS_
          · exact hS_
      · rw [if_neg hok] at hw0
        rw [hw0]
        unfold Plt.Sh.ok at hok
        dsimp only at hok
        as_aux_lemma =>
          repeat' (first | ((first | apply w9 | apply y8 | apply x8); exact rfl; exact rfl) | (apply w7; first | refine u9 (h := ?_) | refine y9 (h := ?_) | refine w8 (h := ?_) | refine q6 (h := ?_) | refine q0 (h := ?_)) | ((first | apply p3 | apply o8 | apply d9); exact rfl; exact rfl; exact rfl) | (apply o7; exact rfl; intro _) | (apply q7; first | refine q8 (h := ?_) | refine q9 (h := ?_)) | (apply o9; infer_instance; exact rfl; exact rfl) | (apply m8; infer_instance; infer_instance; exact rfl; exact rfl; (first | exact rfl | omega); exact rfl; (first | assumption | omega | decide)) | ((first | apply s9 | apply x9 | apply z8 | apply s7 | apply s8 | apply w4 | apply z9 | apply w5)) | (apply v8; exact rfl; exact tT_) | ((first | apply w6 | apply z6 | apply z0 | apply p5 | apply y0 | apply z7)) | ((apply p6 (id := 13) []); kernel_rfl; kernel_rfl) | (apply za6; try simp only [za9, List.cons_append, List.nil_append]) | ((first | apply i9 | apply n9 | apply m5); exact rfl; exact rfl) | (apply m0; first | refine k8 (h := ?_) | refine p7 (h := ?_) | refine m6 (h := ?_) | refine d8 (h := ?_) | refine d7 (h := ?_)) | ((first | apply ze6 | apply zh4 | apply zm1); exact rfl; exact rfl; exact rfl) | (apply zm8; exact rfl; exact tT_; exact rfl; exact rfl) | (apply zh9; exact rfl; exact fF_; exact rfl; exact rfl) | ((first | apply zt3); exact rfl; exact gG_) | (apply zv7; exact rfl; exact gG_; exact rfl) | (apply zH4; exact rfl; exact rfl) | (apply zx2; exact rfl; intro hcond; rotate_left; intro hcond; rotate_left))
          all_goals first
            | (exfalso; omega)
            | (apply p8; apply zf9 Try.results32; exact rV_; exact rV_; intro w' hw; exact ⟨rfl, hw.below (by simp)⟩)
    · obtain ⟨⟨f', t'⟩, hx'⟩ : ∃ s, l[k]? = some s := ⟨_, List.getElem?_eq_getElem (by omega)⟩
      have h2 : ∀ j u, ([.int .i64 f', .int .i64 t'] : List Value)[j]? = some u → cc[off + k * 2 + j]? = some u := hp.get hx'
      have e2 : zt5 (l.take (k + 1)) = t' := by rw [take_snoc hx', zG1]
      rw [e2] at hw0 hl0
      by_cases hok : Plt.Sh.ok t' ⟨f, t⟩
      · rw [if_pos hok] at hw0
        unfold Plt.Sh.ok at hok
        dsimp only at hok hw0
        as_aux_lemma =>
          repeat' (first | ((apply yy4 (v := (k : Int))); exact rfl; exact rfl; omega; (constructor <;> omega); exact rfl) | ((apply zc3 (m := k)); infer_instance; infer_instance; exact rfl; exact rfl; exact rfl; exact rfl; omega) | ((first | apply w9 | apply y8 | apply x8); exact rfl; exact rfl) | (apply w7; first | refine u9 (h := ?_) | refine y9 (h := ?_) | refine w8 (h := ?_) | refine q6 (h := ?_) | refine q0 (h := ?_)) | ((first | apply p3 | apply o8 | apply d9); exact rfl; exact rfl; exact rfl) | ((first | apply j0 | apply ze5); exact rfl; exact rfl; exact rfl; (constructor <;> omega)) | (apply o7; exact rfl; intro _) | (apply q7; first | refine q8 (h := ?_) | refine q9 (h := ?_)) | (apply o9; infer_instance; exact rfl; exact rfl) | (apply m8; infer_instance; infer_instance; exact rfl; exact rfl; (first | exact rfl | omega); exact rfl; (first | assumption | omega | decide)) | ((first | apply s9 | apply x9 | apply z8 | apply s7 | apply s8 | apply w4 | apply z9 | apply w5)) | (apply v8; exact rfl; exact tT_) | (apply v9; exact rfl; exact fF_) | ((first | apply w6 | apply z6 | apply z0 | apply p5 | apply y0 | apply z7)) | ((apply p6 (id := 13) []); kernel_rfl; kernel_rfl) | (apply za6; try simp only [za9, List.cons_append, List.nil_append]) | ((first | apply i9 | apply n9 | apply m5); exact rfl; exact rfl) | (apply zb4; exact rfl; exact rfl) | (apply m0; first | refine k8 (h := ?_) | refine p7 (h := ?_) | refine m6 (h := ?_) | refine d8 (h := ?_) | refine d7 (h := ?_)) | ((first | apply ze6 | apply zh4 | apply zm1); exact rfl; exact rfl; exact rfl) | (apply zm8; exact rfl; exact tT_; exact rfl; exact rfl) | (apply zh9; exact rfl; exact fF_; exact rfl; exact rfl) | ((first | apply zt3); exact rfl; exact gG_))
          all_goals first
            | (exfalso; omega)
            | skip
          refine o0 (k + 1 + 1) ⟨by omega, by rw [e1]; exact hw0, by rw [e1]; omega⟩ (by omega) ?_ ?_
          · exact fS_
          · exact hS_
      · rw [if_neg hok] at hw0
        rw [hw0]
        unfold Plt.Sh.ok at hok
        dsimp only at hok
        as_aux_lemma =>
          repeat' (first | ((apply yy4 (v := (k : Int))); exact rfl; exact rfl; omega; (constructor <;> omega); exact rfl) | ((apply zc3 (m := k)); infer_instance; infer_instance; exact rfl; exact rfl; exact rfl; exact rfl; omega) | ((first | apply w9 | apply y8 | apply x8); exact rfl; exact rfl) | (apply w7; first | refine u9 (h := ?_) | refine y9 (h := ?_) | refine w8 (h := ?_) | refine q6 (h := ?_) | refine q0 (h := ?_)) | ((first | apply p3 | apply o8 | apply d9); exact rfl; exact rfl; exact rfl) | (apply o7; exact rfl; intro _) | (apply q7; first | refine q8 (h := ?_) | refine q9 (h := ?_)) | (apply o9; infer_instance; exact rfl; exact rfl) | (apply m8; infer_instance; infer_instance; exact rfl; exact rfl; (first | exact rfl | omega); exact rfl; (first | assumption | omega | decide)) | ((first | apply s9 | apply x9 | apply z8 | apply s7 | apply s8 | apply w4 | apply z9 | apply w5)) | (apply v8; exact rfl; exact tT_) | ((first | apply w6 | apply z6 | apply z0 | apply p5 | apply y0 | apply z7)) | ((apply p6 (id := 13) []); kernel_rfl; kernel_rfl) | (apply za6; try simp only [za9, List.cons_append, List.nil_append]) | ((first | apply i9 | apply n9 | apply m5); exact rfl; exact rfl) | (apply zb4; exact rfl; exact rfl) | (apply m0; first | refine k8 (h := ?_) | refine p7 (h := ?_) | refine m6 (h := ?_) | refine d8 (h := ?_) | refine d7 (h := ?_)) | ((first | apply ze6 | apply zh4 | apply zm1); exact rfl; exact rfl; exact rfl) | (apply zm8; exact rfl; exact tT_; exact rfl; exact rfl) | (apply zh9; exact rfl; exact fF_; exact rfl; exact rfl) | ((first | apply zt3); exact rfl; exact gG_) | (apply zv7; exact rfl; exact gG_; exact rfl) | (apply zH4; exact rfl; exact rfl) | (apply zx2; exact rfl; intro hcond; rotate_left; intro hcond; rotate_left))
          all_goals first
            | (exfalso; omega)
            | (apply p8; apply zf9 Try.results32; exact rV_; exact rV_; intro w' hw; exact ⟨rfl, hw.below (by simp)⟩)
  rw [List.drop_of_length_le (by omega), Plt.zi8] at hw0
  rw [hw0]
  repeat' (first | (apply v9; exact rfl; exact dF_) | ((first | apply w9 | apply y8 | apply x8); exact rfl; exact rfl) | ((first | apply p3 | apply o8 | apply d9); exact rfl; exact rfl; exact rfl) | (apply o9; infer_instance; exact rfl; exact rfl) | ((first | apply s9 | apply x9 | apply z8 | apply s7 | apply s8 | apply w4 | apply z9 | apply w5)) | ((first | apply w6 | apply z6 | apply z0 | apply p5 | apply y0 | apply z7)))
  apply p8; apply zf9 Try.results32; exact rV_; exact rV_; intro w' hw
  exact ⟨rfl, hw.below (by simp)⟩
end Go.Proofs.Ytdahckhlfldkkaa
namespace Go.Proofs.Ytdahckhlfldkkaa
open Go Go.Sx Go.RowKit
attribute [local irreducible] WL WC WQ WR WB WF QB St Exit.then Exit.inBlock Exit.noGoto bodyPost roundPost zc1 YR RG BM Calls B zc7 ze3
theorem yh9 {v : Value} {caps : List Int} (w : World) (h : SV w 1 encI v caps) : Calls Try.prog 45 #[v] w fun e w' => e = .returned (.bool (B (Srt.zo3 caps))) ∧ Below w.heap.size w w' := by
  obtain ⟨a0, ca, rfl, hca, hop⟩ := h.open
  refine zd2 Try.func45 rfl Try.ntmps45 rfl (Rep.start w) ?_
  repeat' (first | ((first | apply w9 | apply y8); exact rfl; exact rfl) | ((first | apply s9 | apply x9 | apply z8 | apply s7 | apply s8 | apply w4 | apply z9 | apply w5)) | ((first | apply w6 | apply z6 | apply z0 | apply p5 | apply y0 | apply z7)))
  apply j9 (σ := Nat) (Fs := fun i => [(3, .int .i64 i), (0, .slice a0 caps.length ca)]) (Ls := fun i => []) (I := fun i => i ≤ caps.length ∧ ∀ c ∈ caps.take i, 1 ≤ c ∧ c ≤ 100000) (μ := fun i => caps.length - i) (s0 := 0)
  · exact ⟨Nat.zero_le _, by simp⟩
  · exact fS_
  · exact hS_
  rintro i ⟨hi, hin⟩
  by_cases hlt : i < caps.length
  · obtain ⟨c, hx⟩ : ∃ c, caps[i]? = some c := ⟨_, List.getElem?_eq_getElem hlt⟩
    obtain ⟨b, off, cc, e, fz, rfl, hk, hp⟩ := hop (by omega)
    have h1 := hp.one hx rfl
    by_cases hc : 1 ≤ c ∧ c ≤ 100000
    · repeat' (first | (apply v8; exact rfl; exact dT_) | (apply v9; exact rfl; exact dF_) | (apply p9; exact rfl; exact dF_; exact rfl; exact rfl) | (apply k9; exact rfl; exact dF_) | ((first | apply w9 | apply y8); exact rfl; exact rfl) | (apply w7; first | refine u9 (h := ?_) | refine y9 (h := ?_) | refine w8 (h := ?_) | refine q6 (h := ?_) | refine q0 (h := ?_)) | ((first | apply p3 | apply o8); exact rfl; exact rfl; exact rfl) | (apply j0; exact rfl; exact rfl; exact rfl; (constructor <;> omega)) | (apply o9; infer_instance; exact rfl; exact rfl) | (apply m8; infer_instance; infer_instance; exact rfl; exact rfl; (first | exact rfl | omega); exact rfl; (first | assumption | omega | decide)) | ((first | apply s9 | apply x9 | apply z8 | apply s7 | apply s8 | apply w4 | apply z9 | apply w5)) | ((first | apply w6 | apply z6 | apply z0 | apply p5 | apply y0 | apply z7)))
      refine o0 (i + 1) ⟨by omega, zh0 hx hin hc⟩ (by omega) ?_ ?_
      · exact fS_
      · exact hS_
    · rw [zc2 (fun h => hc (h.2 c (List.mem_of_getElem? hx)))]
      repeat' (first | (apply v8; exact rfl; exact dT_) | (apply n8; exact rfl; exact dT_; exact rfl; exact rfl) | (apply p9; exact rfl; exact dF_; exact rfl; exact rfl) | (apply k9; exact rfl; exact dF_) | (apply za5; exact rfl; exact dT_; exact rfl) | ((first | apply w9 | apply y8); exact rfl; exact rfl) | (apply w7; first | refine u9 (h := ?_) | refine y9 (h := ?_) | refine w8 (h := ?_) | refine q6 (h := ?_) | refine q0 (h := ?_)) | ((first | apply p3 | apply o8); exact rfl; exact rfl; exact rfl) | (apply o9; infer_instance; exact rfl; exact rfl) | (apply m8; infer_instance; infer_instance; exact rfl; exact rfl; (first | exact rfl | omega); exact rfl; (first | assumption | omega | decide)) | ((first | apply s9 | apply x9 | apply z8 | apply s7 | apply s8 | apply w4 | apply z9 | apply w5)) | (apply v8; exact rfl; exact tT_) | ((first | apply w6 | apply z6 | apply z0 | apply p5 | apply y0 | apply z7)) | (apply zd3; exact rfl; intro hcond; rotate_left; intro hcond; rotate_left))
      all_goals first
        | (exfalso; omega)
        | (apply p8; apply zb0 Try.results45; exact rV_; intro w' hw; exact ⟨rfl, hw.below (by simp)⟩)
  rw [List.take_of_length_le (by omega)] at hin
  by_cases h0 : 0 < caps.length
  · by_cases h65 : caps.length < 65
    · rw [zj0 ⟨⟨by omega, by omega⟩, hin⟩]
      repeat' (first | (apply v9; exact rfl; exact dF_) | (apply n8; exact rfl; exact dT_; exact rfl; exact rfl) | (apply k9; exact rfl; exact dT_) | ((first | apply w9 | apply y8); exact rfl; exact rfl) | ((first | apply p3 | apply o8); exact rfl; exact rfl; exact rfl) | (apply o9; infer_instance; exact rfl; exact rfl) | ((first | apply s9 | apply x9 | apply z8 | apply s7 | apply s8 | apply w4 | apply z9 | apply w5)) | ((first | apply w6 | apply z6 | apply z0 | apply p5 | apply y0 | apply z7)))
      apply p8; apply zb0 Try.results45; exact rV_; intro w' hw
      exact ⟨by rw [decide_eq_true (by omega : (caps.length : Int) < 65)], hw.below (by simp)⟩
    · rw [zc2 (fun h => by have := h.1.2; omega)]
      repeat' (first | (apply v9; exact rfl; exact dF_) | (apply n8; exact rfl; exact dT_; exact rfl; exact rfl) | (apply k9; exact rfl; exact dT_) | ((first | apply w9 | apply y8); exact rfl; exact rfl) | ((first | apply p3 | apply o8); exact rfl; exact rfl; exact rfl) | (apply o9; infer_instance; exact rfl; exact rfl) | ((first | apply s9 | apply x9 | apply z8 | apply s7 | apply s8 | apply w4 | apply z9 | apply w5)) | ((first | apply w6 | apply z6 | apply z0 | apply p5 | apply y0 | apply z7)))
      apply p8; apply zb0 Try.results45; exact rV_; intro w' hw
      exact ⟨by rw [decide_eq_false (by omega : ¬ (caps.length : Int) < 65)], hw.below (by simp)⟩
  · rw [zc2 (fun h => by have := h.1.1; omega)]
    repeat' (first | (apply v9; exact rfl; exact dF_) | (apply p9; exact rfl; exact dF_; exact rfl; exact rfl) | (apply za5; exact rfl; exact dF_; exact rfl) | ((first | apply w9 | apply y8); exact rfl; exact rfl) | ((first | apply p3 | apply o8); exact rfl; exact rfl; exact rfl) | (apply o9; infer_instance; exact rfl; exact rfl) | ((first | apply s9 | apply x9 | apply z8 | apply s7 | apply s8 | apply w4 | apply z9 | apply w5)) | ((first | apply w6 | apply z6 | apply z0 | apply p5 | apply y0 | apply z7)))
    apply p8; apply zb0 Try.results45; exact rV_; intro w' hw
    exact ⟨rfl, hw.below (by simp)⟩
set_option maxHeartbeats 4000000 in
theorem ym3 {cv fv : Value} {caps : List Int} {l : List Srt.Fd} (w : World) (h : SV w 1 encI cv caps) (hl : SV w 2 zo0 fv l) : Calls Try.prog 46 #[cv, fv] w fun e w' => e = .returned (.int .i64 (Srt.zp0 caps.length l)) ∧ Below w.heap.size w w' := by
  obtain ⟨a0, c0, rfl, hc0, -⟩ := h.open
  obtain ⟨a1, c1, rfl, hc1, hop⟩ := hl.open
  by_cases hb : 2000 < l.length
  · rw [show Srt.zp0 caps.length l = 5 by unfold Srt.zp0; rw [if_pos hb]]
    refine za8 Try.func46 rfl Try.ntmps46 rfl (Rep.start w) ?_
    repeat' (first | (apply v8; exact rfl; exact dT_) | ((first | apply w9 | apply y8 | apply x8); exact rfl; exact rfl) | ((first | apply p3 | apply o8 | apply d9 | apply l0); exact rfl; exact rfl; exact rfl) | (apply o9; infer_instance; exact rfl; exact rfl) | ((first | apply s9 | apply x9 | apply z8 | apply s7 | apply s8 | apply w4 | apply z9 | apply w5)) | ((first | apply w6 | apply z6 | apply z0 | apply p5 | apply y0 | apply z7)))
    apply p8; apply zb0 Try.results46; exact rV_; intro w' hw
    exact ⟨rfl, hw.below (by simp)⟩
  have e0 : Srt.zp0 caps.length l = if Srt.zA9 caps.length [] l = true then 291 else 0 := by unfold Srt.zp0; rw [if_neg hb]
  rw [e0]
  refine za8 Try.func46 rfl Try.ntmps46 rfl (Rep.start w) ?_
  repeat' (first | (apply v9; exact rfl; exact dF_) | ((first | apply w9 | apply y8 | apply x8); exact rfl; exact rfl) | ((first | apply p3 | apply o8 | apply d9 | apply l0); exact rfl; exact rfl; exact rfl) | (apply o9; infer_instance; exact rfl; exact rfl) | ((first | apply s9 | apply x9 | apply z8 | apply s7 | apply s8 | apply w4 | apply z9 | apply w5)) | ((first | apply w6 | apply z6 | apply z0 | apply p5 | apply y0 | apply z7)))
  apply j9 (σ := Nat) (Fs := fun i => [(5, .int .i64 i), (0, .slice a0 caps.length c0), (1, .slice a1 l.length c1)]) (Ls := fun i => []) (I := fun i => i ≤ l.length ∧ Srt.zA9 caps.length [] l = Srt.zA9 caps.length ((l.take i).map Srt.Fd.item) (l.drop i)) (μ := fun i => l.length - i) (s0 := 0)
  · exact ⟨Nat.zero_le _, by simp⟩
  · exact fS_
  · exact hS_
  rintro i ⟨hi, hbad⟩
  by_cases hlt : i < l.length
  · obtain ⟨⟨it, st⟩, hx⟩ : ∃ s, l[i]? = some s := ⟨_, List.getElem?_eq_getElem hlt⟩
    obtain ⟨b, off, cc, e, fz, rfl, hk, hp⟩ := hop (by omega)
    have h1 : ∀ j u, ([.int .i64 it, .int .i64 st] : List Value)[j]? = some u → cc[off + i * 2 + j]? = some u := hp.get hx
    have e3 : (l.take (i + 1)).map Srt.Fd.item = (l.take i).map Srt.Fd.item ++ [it] := by rw [take_snoc hx]; simp
    rw [drop_at hx, Srt.zA9] at hbad
    by_cases hok : Srt.Fd.ok caps.length ⟨it, st⟩
    · have hok' := hok
      unfold Srt.Fd.ok at hok'
      dsimp only at hok'
      repeat' (first | (apply v8; exact rfl; exact dT_) | (apply v9; exact rfl; exact dF_) | (apply p9; exact rfl; exact dF_; exact rfl; exact rfl) | (apply k9; exact rfl; exact dF_) | ((first | apply w9 | apply y8 | apply x8); exact rfl; exact rfl) | (apply w7; first | refine u9 (h := ?_) | refine y9 (h := ?_) | refine w8 (h := ?_) | refine q6 (h := ?_) | refine q0 (h := ?_)) | ((first | apply p3 | apply o8 | apply d9 | apply l0); exact rfl; exact rfl; exact rfl) | (apply o7; exact rfl; intro _) | (apply q7; first | refine q8 (h := ?_) | refine q9 (h := ?_)) | (apply o9; infer_instance; exact rfl; exact rfl) | (apply m8; infer_instance; infer_instance; exact rfl; exact rfl; (first | exact rfl | omega); exact rfl; (first | assumption | omega | decide)) | ((first | apply s9 | apply x9 | apply z8 | apply s7 | apply s8 | apply w4 | apply z9 | apply w5)) | ((first | apply w6 | apply z6 | apply z0 | apply p5 | apply y0 | apply z7)))
      rename_i b6
      apply j9 (σ := Nat) (Fs := fun k => [(7, .int .i64 k), (6, ptr b6), (5, .int .i64 i), (0, .slice a0 caps.length c0), (1, .slice (some ⟨b, off, none⟩) l.length c1)]) (Ls := fun _ => [⟨b6, Ce [.int .i64 it, .int .i64 st] 163, true⟩]) (I := fun k => k ≤ i ∧ ∀ y ∈ (l.take i).map Srt.Fd.item |>.take k, y ≠ it) (μ := fun k => i - k) (s0 := 0)
      · exact ⟨Nat.zero_le _, by simp⟩
      · exact fS_
      · exact hS_
      rintro k ⟨hki, hkn⟩
      by_cases hkl : k < i
      · obtain ⟨⟨it', st'⟩, hx'⟩ : ∃ s, l[k]? = some s := ⟨_, List.getElem?_eq_getElem (by omega)⟩
        have h2 : ∀ j u, ([.int .i64 it', .int .i64 st'] : List Value)[j]? = some u → cc[off + k * 2 + j]? = some u := hp.get hx'
        have hmk : ((l.take i).map Srt.Fd.item)[k]? = some it' := by rw [List.getElem?_map, List.getElem?_take_of_lt hkl, hx']; rfl
        by_cases he : it' = it
        · have hm : it ∈ (l.take i).map Srt.Fd.item := by rw [← he]; exact List.mem_of_getElem? hmk
          rw [if_neg (fun h => h.2 hm)] at hbad
          rw [hbad, if_pos rfl]
          as_aux_lemma =>
            repeat' (first | (apply v8; exact rfl; exact dT_) | ((first | apply w9 | apply y8 | apply x8); exact rfl; exact rfl) | ((first | apply p3 | apply o8 | apply d9 | apply l0); exact rfl; exact rfl; exact rfl) | ((first | apply s9 | apply x9 | apply z8 | apply s7 | apply s8 | apply w4 | apply z9 | apply w5)) | ((first | apply w6 | apply z6 | apply z0 | apply p5 | apply y0 | apply z7)) | ((apply p6 (id := 12) []); kernel_rfl; kernel_rfl) | (apply za6; try simp only [za9, List.cons_append, List.nil_append]) | ((first | apply i9 | apply n9 | apply m5); exact rfl; exact rfl) | (apply zb4; exact rfl; exact rfl) | (apply m0; first | refine k8 (h := ?_) | refine p7 (h := ?_) | refine m6 (h := ?_) | refine d8 (h := ?_) | refine d7 (h := ?_)) | ((first | apply ze6 | apply zh4 | apply zm1 | apply zi4); exact rfl; exact rfl; exact rfl) | (apply zc3; infer_instance; infer_instance; exact rfl; exact rfl; (first | exact rfl | omega); exact rfl; (first | assumption | omega | decide)))
            apply p8; apply zb0 Try.results46; exact rV_; intro w' hw
            exact ⟨rfl, hw.below (by simp)⟩
        · as_aux_lemma =>
            repeat' (first | (apply v8; exact rfl; exact dT_) | (apply v9; exact rfl; exact dF_) | ((first | apply w9 | apply y8 | apply x8); exact rfl; exact rfl) | ((first | apply p3 | apply o8 | apply d9 | apply l0); exact rfl; exact rfl; exact rfl) | (apply j0; exact rfl; exact rfl; exact rfl; (constructor <;> omega)) | ((first | apply s9 | apply x9 | apply z8 | apply s7 | apply s8 | apply w4 | apply z9 | apply w5)) | ((first | apply w6 | apply z6 | apply z0 | apply p5 | apply y0 | apply z7)) | ((apply p6 (id := 12) []); kernel_rfl; kernel_rfl) | (apply za6; try simp only [za9, List.cons_append, List.nil_append]) | ((first | apply i9 | apply n9 | apply m5); exact rfl; exact rfl) | (apply zb4; exact rfl; exact rfl) | (apply m0; first | refine k8 (h := ?_) | refine p7 (h := ?_) | refine m6 (h := ?_) | refine d8 (h := ?_) | refine d7 (h := ?_)) | ((first | apply ze6 | apply zh4 | apply zm1 | apply zi4); exact rfl; exact rfl; exact rfl) | (apply zc3; infer_instance; infer_instance; exact rfl; exact rfl; (first | exact rfl | omega); exact rfl; (first | assumption | omega | decide)))
            refine o0 (k + 1) ⟨by omega, zh0 hmk hkn he⟩ (by omega) ?_ ?_
            · exact fS_
            · exact hS_
      obtain rfl : k = i := by omega
      rw [List.take_of_length_le (by rw [List.length_map, List.length_take]; omega)] at hkn
      rw [if_pos ⟨hok, fun hm => hkn _ hm rfl⟩] at hbad
      as_aux_lemma =>
        repeat' (first | (apply v9; exact rfl; exact dF_) | ((first | apply w9 | apply y8 | apply x8); exact rfl; exact rfl) | ((first | apply p3 | apply o8 | apply d9 | apply l0); exact rfl; exact rfl; exact rfl) | (apply j0; exact rfl; exact rfl; exact rfl; (constructor <;> omega)) | ((first | apply s9 | apply x9 | apply z8 | apply s7 | apply s8 | apply w4 | apply z9 | apply w5)) | ((first | apply w6 | apply z6 | apply z0 | apply p5 | apply y0 | apply z7)))
        refine o0 (k + 1) ⟨by omega, by rw [e3]; exact hbad⟩ (by omega) ?_ ?_
        · exact fS_
        · exact hS_
    · rw [if_neg (fun h => hok h.1)] at hbad
      rw [hbad, if_pos rfl]
      unfold Srt.Fd.ok at hok
      dsimp only at hok
      as_aux_lemma =>
        repeat' (first | (apply v8; exact rfl; exact dT_) | (apply n8; exact rfl; exact dT_; exact rfl; exact rfl) | (apply p9; exact rfl; exact dF_; exact rfl; exact rfl) | (apply k9; exact rfl; exact dF_) | (apply za5; exact rfl; exact dT_; exact rfl) | ((first | apply w9 | apply y8 | apply x8); exact rfl; exact rfl) | (apply w7; first | refine u9 (h := ?_) | refine y9 (h := ?_) | refine w8 (h := ?_) | refine q6 (h := ?_) | refine q0 (h := ?_)) | ((first | apply p3 | apply o8 | apply d9 | apply l0); exact rfl; exact rfl; exact rfl) | (apply n8; exact rfl; exact tT_; exact rfl; exact rfl) | (apply o7; exact rfl; intro _) | (apply q7; first | refine q8 (h := ?_) | refine q9 (h := ?_)) | (apply o9; infer_instance; exact rfl; exact rfl) | (apply m8; infer_instance; infer_instance; exact rfl; exact rfl; (first | exact rfl | omega); exact rfl; (first | assumption | omega | decide)) | (apply za5; exact rfl; exact gG_; exact rfl) | ((first | apply s9 | apply x9 | apply z8 | apply s7 | apply s8 | apply w4 | apply z9 | apply w5)) | (apply v8; exact rfl; exact tT_) | ((first | apply w6 | apply z6 | apply z0 | apply p5 | apply y0 | apply z7)) | (apply zd3; exact rfl; intro hcond; rotate_left; intro hcond; rotate_left))
        all_goals first
          | (exfalso; omega)
          | (apply p8; apply zb0 Try.results46; exact rV_; intro w' hw; exact ⟨rfl, hw.below (by simp)⟩)
  rw [List.drop_of_length_le (by omega), Srt.zA9] at hbad
  rw [hbad, if_neg (by simp)]
  repeat' (first | (apply v9; exact rfl; exact dF_) | ((first | apply w9 | apply y8 | apply x8); exact rfl; exact rfl) | ((first | apply p3 | apply o8 | apply d9 | apply l0); exact rfl; exact rfl; exact rfl) | (apply o9; infer_instance; exact rfl; exact rfl) | ((first | apply s9 | apply x9 | apply z8 | apply s7 | apply s8 | apply w4 | apply z9 | apply w5)) | ((first | apply w6 | apply z6 | apply z0 | apply p5 | apply y0 | apply z7)))
  apply p8; apply zb0 Try.results46; exact rV_; intro w' hw
  exact ⟨rfl, hw.below (by simp)⟩
theorem yz4 {l : List Srt.Ev} {m : Nat} {e : Srt.Ev} (h : l[m]? = some e) : (l.take (m + 1)).reverse = e :: (l.take m).reverse := by rw [take_snoc h]; simp
theorem zB4 {v : Value} {l : List Srt.Ev} (k : Int) (w : World) (h : SV w 3 zp1 v l) : Calls Try.prog 68 #[v, .int .i64 k] w fun e w' => e = .returned (.int .i64 (Srt.zt4 l k)) ∧ Below w.heap.size w w' := by
  obtain ⟨a0, c0, rfl, hc0, hop⟩ := h.open
  refine za8 Try.func68 rfl Try.ntmps68 rfl (Rep.start w) ?_
  repeat' (first | ((first | apply w9 | apply y8 | apply x8); exact rfl; exact rfl) | ((first | apply j0 | apply ze5); exact rfl; exact rfl; exact rfl; (constructor <;> omega)) | (apply o9; infer_instance; exact rfl; exact rfl) | ((first | apply s9 | apply x9 | apply z8 | apply s7 | apply s8 | apply w4 | apply z9 | apply w5)) | ((first | apply w6 | apply z6 | apply z0 | apply p5 | apply y0 | apply z7)))
  apply j9 (σ := Nat × Int) (Fs := fun t => [(6, .int .i64 ((t.1 : Int) - 1)), (5, .int .i64 t.2), (0, .slice a0 l.length c0), (1, .int .i64 k)]) (Ls := fun _ => []) (I := fun t => t.1 ≤ l.length ∧ Srt.zt4 l k = t.2 + Srt.zK2 (l.take t.1).reverse k ∧ 0 ≤ t.2 ∧ t.2 ≤ l.length - t.1) (μ := fun t => t.1) (s0 := (l.length, 0))
  · exact ⟨Nat.le_refl _, by simp [Srt.zt4], Int.le_refl _, by dsimp only; omega⟩
  · exact fS_
  · exact hS_
  rintro ⟨n, out⟩ ⟨hn, hh, ho1, ho2⟩
  dsimp only at hn hh ho1 ho2 ⊢
  rcases n with _ | m
  · have e1 : Srt.zt4 l k = out := by rw [hh]; simp [Srt.zK2]
    rw [e1]
    repeat' (first | (apply v9; exact rfl; exact dF_) | ((first | apply w9 | apply y8 | apply x8); exact rfl; exact rfl) | ((first | apply d9 | apply l0); exact rfl; exact rfl; exact rfl) | ((first | apply s9 | apply x9 | apply z8 | apply s7 | apply s8 | apply w4 | apply z9 | apply w5)) | ((first | apply w6 | apply z6 | apply z0 | apply p5 | apply y0 | apply z7)))
    apply p8; apply zb0 Try.results68; exact rV_; intro w' hw
    exact ⟨rfl, hw.below (by simp)⟩
  · obtain ⟨⟨kd, it, st⟩, hx⟩ : ∃ s, l[m]? = some s := ⟨_, List.getElem?_eq_getElem (by omega)⟩
    obtain ⟨b, off, cc, e, fz, rfl, hk, hp⟩ := hop (by omega)
    have h1 : ∀ j u, ([.int .u8 kd, .int .i64 it, .int .i64 st] : List Value)[j]? = some u → cc[off + m * 3 + j]? = some u := hp.get hx
    rw [yz4 hx, Srt.zK2] at hh
    dsimp only at hh
    have em : ((m + 1 : Nat) : Int) - 1 = (m : Int) := by omega
    rw [em]
    by_cases h2 : st = k
    · subst h2
      by_cases hk2 : kd = 2
      · rw [if_pos ⟨rfl, hk2⟩, Int.add_zero] at hh
        rw [hh]
        as_aux_lemma =>
          repeat' (first | (apply v8; exact rfl; exact dT_) | (apply n8; exact rfl; exact dT_; exact rfl; exact rfl) | (apply k9; exact rfl; exact dT_) | ((first | apply w9 | apply y8 | apply x8); exact rfl; exact rfl) | (apply za7; exact rfl; exact rfl) | (apply w7; first | refine u9 (h := ?_) | refine y9 (h := ?_) | refine w8 (h := ?_) | refine q6 (h := ?_) | refine q0 (h := ?_)) | ((first | apply d9 | apply l0); exact rfl; exact rfl; exact rfl) | (apply m8; infer_instance; infer_instance; exact rfl; exact rfl; (first | exact rfl | omega); exact rfl; (first | assumption | omega | decide)) | ((first | apply s9 | apply x9 | apply z8 | apply s7 | apply s8 | apply w4 | apply z9 | apply w5)) | ((first | apply w6 | apply z6 | apply z0 | apply p5 | apply y0 | apply z7)) | (apply zs6; exact rfl))
          apply p8; apply zb0 Try.results68; exact rV_; intro w' hw
          exact ⟨rfl, hw.below (by simp)⟩
      · rw [if_neg (fun h => hk2 h.2)] at hh
        by_cases hk1 : kd = 1
        · rw [if_pos ⟨rfl, hk1⟩] at hh
          as_aux_lemma =>
            repeat' (first | (apply v8; exact rfl; exact dT_) | (apply v9; exact rfl; exact dF_) | (apply n8; exact rfl; exact dT_; exact rfl; exact rfl) | (apply k9; exact rfl; exact dT_) | ((first | apply w9 | apply y8 | apply x8); exact rfl; exact rfl) | (apply za7; exact rfl; exact rfl) | (apply w7; first | refine u9 (h := ?_) | refine y9 (h := ?_) | refine w8 (h := ?_) | refine q6 (h := ?_) | refine q0 (h := ?_)) | ((first | apply d9 | apply l0); exact rfl; exact rfl; exact rfl) | ((first | apply j0 | apply ze5); exact rfl; exact rfl; exact rfl; (constructor <;> omega)) | (apply m8; infer_instance; infer_instance; exact rfl; exact rfl; (first | exact rfl | omega); exact rfl; (first | assumption | omega | decide)) | ((first | apply s9 | apply x9 | apply z8 | apply s7 | apply s8 | apply w4 | apply z9 | apply w5)) | ((first | apply w6 | apply z6 | apply z0 | apply p5 | apply y0 | apply z7)))
            refine o0 (m, out + 1) ⟨by dsimp only; omega, by dsimp only; omega, by dsimp only; omega, by dsimp only; omega⟩ (by dsimp only; omega) ?_ ?_
            · exact fS_
            · exact hS_
        · rw [if_neg (fun h => hk1 h.2)] at hh
          as_aux_lemma =>
            repeat' (first | (apply v8; exact rfl; exact dT_) | (apply v9; exact rfl; exact dF_) | (apply n8; exact rfl; exact dT_; exact rfl; exact rfl) | (apply k9; exact rfl; exact dT_) | ((first | apply w9 | apply y8 | apply x8); exact rfl; exact rfl) | (apply za7; exact rfl; exact rfl) | (apply w7; first | refine u9 (h := ?_) | refine y9 (h := ?_) | refine w8 (h := ?_) | refine q6 (h := ?_) | refine q0 (h := ?_)) | ((first | apply d9 | apply l0); exact rfl; exact rfl; exact rfl) | ((first | apply j0 | apply ze5); exact rfl; exact rfl; exact rfl; (constructor <;> omega)) | (apply m8; infer_instance; infer_instance; exact rfl; exact rfl; (first | exact rfl | omega); exact rfl; (first | assumption | omega | decide)) | ((first | apply s9 | apply x9 | apply z8 | apply s7 | apply s8 | apply w4 | apply z9 | apply w5)) | ((first | apply w6 | apply z6 | apply z0 | apply p5 | apply y0 | apply z7)))
            refine o0 (m, out) ⟨by dsimp only; omega, by dsimp only; omega, by dsimp only; omega, by dsimp only; omega⟩ (by dsimp only; omega) ?_ ?_
            · exact fS_
            · exact hS_
    · rw [if_neg (fun h => h2 h.1), if_neg (fun h => h2 h.1)] at hh
      as_aux_lemma =>
        repeat' (first | (apply v8; exact rfl; exact dT_) | (apply p9; exact rfl; exact dF_; exact rfl; exact rfl) | (apply za5; exact rfl; exact dF_; exact rfl) | ((first | apply w9 | apply y8 | apply x8); exact rfl; exact rfl) | (apply za7; exact rfl; exact rfl) | (apply w7; first | refine u9 (h := ?_) | refine y9 (h := ?_) | refine w8 (h := ?_) | refine q6 (h := ?_) | refine q0 (h := ?_)) | ((first | apply d9 | apply l0); exact rfl; exact rfl; exact rfl) | ((first | apply j0 | apply ze5); exact rfl; exact rfl; exact rfl; (constructor <;> omega)) | (apply m8; infer_instance; infer_instance; exact rfl; exact rfl; (first | exact rfl | omega); exact rfl; (first | assumption | omega | decide)) | ((first | apply s9 | apply x9 | apply z8 | apply s7 | apply s8 | apply w4 | apply z9 | apply w5)) | (apply v9; exact rfl; exact fF_) | ((first | apply w6 | apply z6 | apply z0 | apply p5 | apply y0 | apply z7)))
        refine o0 (m, out) ⟨by dsimp only; omega, by dsimp only; omega, by dsimp only; omega, by dsimp only; omega⟩ (by dsimp only; omega) ?_ ?_
        · exact fS_
        · exact hS_
end Go.Proofs.Ytdahckhlfldkkaa
namespace Go.Proofs.Ytdahckhlfldkkaa
open Go Go.Sx Go.RowKit
attribute [local irreducible] WL WC WQ WR WB WF QB St Exit.then Exit.inBlock Exit.noGoto bodyPost roundPost zc1 YR RG BM Calls B zc7 ze3
set_option maxHeartbeats 8000000 in
theorem zU6 {cv fv : Value} {caps : List Int} {s : Int} {l : List Srt.Fd} (w : World) (h : SV w 1 encI cv caps) (hl : SV w 2 zo0 fv l) (hs : 0 ≤ s ∧ s ≤ 1000) (hlen : l.length ≤ 2000) (hst : ∀ f ∈ l, -1 ≤ f.st ∧ f.st < caps.length) :
    Calls Try.prog 59 #[cv, .int .i64 s, fv] w fun e w' => ∃ v N, e = .returned v ∧ (∃ a c, v = .slice a (Srt.evF caps s l).1.length c ∧ OW 174 3 zp1 v (Srt.evF caps s l).1 N) ∧ Rep w w' N ∧ ∀ x ∈ N, x.own = true := by
  obtain ⟨a0, c0, rfl, hc0, hop0⟩ := h.open
  obtain ⟨a1, c1, rfl, hc1, hop⟩ := hl.open
  refine zd8 Try.func59 rfl Try.ntmps59 rfl (Rep.start w) ?_
  repeat' (first | ((first | apply w9 | apply y8 | apply x8); exact rfl; exact rfl) | ((first | apply s9 | apply x9 | apply z8 | apply s7 | apply s8 | apply w4 | apply z9 | apply w5)) | ((first | apply w6 | apply z6 | apply z0 | apply p5 | apply y0 | apply z7)))
  apply j9 (σ := Nat × (Option Addr × Nat) × List Ent) (Fs := fun t => [(8, .int .i64 t.1), (7, .slice t.2.1.1 (Srt.evF caps s (l.take t.1)).1.length t.2.1.2), (1, .int .i64 (Srt.evF caps s (l.take t.1)).2), (0, .slice a0 caps.length c0), (2, .slice a1 l.length c1)])
    (Ls := fun t => t.2.2 ++ []) (I := fun t => t.1 ≤ l.length ∧ OW 174 3 zp1 (.slice t.2.1.1 (Srt.evF caps s (l.take t.1)).1.length t.2.1.2) (Srt.evF caps s (l.take t.1)).1 t.2.2) (μ := fun t => l.length - t.1) (s0 := (0, (none, 0), []))
  · exact ⟨Nat.zero_le _, OW.nil⟩
  · exact fS_
  · exact hS_
  rintro ⟨i, ⟨ao, co⟩, NO⟩ ⟨hi, hO⟩
  dsimp only at hi hO ⊢
  by_cases hlt : i < l.length
  · obtain ⟨⟨it, st⟩, hx⟩ : ∃ s, l[i]? = some s := ⟨_, List.getElem?_eq_getElem hlt⟩
    obtain ⟨b, off, cc, e, fz, rfl, hk, hp⟩ := hop (by omega)
    have h1 : ∀ j u, ([.int .i64 it, .int .i64 st] : List Value)[j]? = some u → cc[off + i * 2 + j]? = some u := hp.get hx
    have hst1 := hst _ (List.mem_of_getElem? hx)
    dsimp only at hst1
    have hel := Srt.yn3 caps s (l.take i)
    rw [List.length_take] at hel
    have hlb := Srt.yu8 caps hs.1 (l.take i)
    have e1 : Srt.evF caps s (l.take (i + 1)) = Srt.zB1 caps (Srt.evF caps s (l.take i)) ⟨it, st⟩ := by rw [take_snoc hx, Srt.zH2]
    obtain ⟨⟨o, lf⟩, ho⟩ : ∃ q, (Srt.evF caps s (l.take i)) = q := ⟨_, rfl⟩
    rw [ho] at hO hel hlb e1 ⊢
    have oO := hO.own
    dsimp only at hO hel hlb oO ⊢
    unfold Srt.zB1 at e1
    dsimp only at e1
    by_cases h4 : st = -1
    · subst h4
      rw [if_pos rfl] at e1
      as_aux_lemma =>
        repeat' (first | (apply v8; exact rfl; exact dT_) | (apply zc4 (enc := zp1) (ys := [(⟨4, it, -1⟩ : Srt.Ev)]); infer_instance; infer_instance; infer_instance; exact rfl; exact ze4; exact zw3; exact rfl; exact rfl; exact rfl; assumption; exact rL_; (exact fun w hw => SV.lit [(⟨4, it, -1⟩ : Srt.Ev)] ze4 hw (by exact aT_) rfl rfl (by decide)); (first | decide | (constructor <;> (try simp only [List.length_cons, List.length_nil]) <;> omega) | (constructor <;> simp <;> omega)); intro a_ cp_ N_ hO_; have oN_ := hO_.own; (try simp only [List.nil_append, List.append_assoc] at hO_); (try simp only [List.append_eq, List.append_assoc, List.cons_append, List.nil_append])) | ((first | apply w9 | apply y8 | apply x8); exact rfl; exact rfl) | (apply w7; first | refine u9 (h := ?_) | refine y9 (h := ?_) | refine w8 (h := ?_) | refine q6 (h := ?_) | refine q0 (h := ?_)) | ((first | apply p3 | apply l0); exact rfl; exact rfl; exact rfl) | ((first | apply j0 | apply ze5); exact rfl; exact rfl; exact rfl; (constructor <;> omega)) | (apply o7; exact rfl; intro _) | (apply q7; first | refine q8 (h := ?_) | refine q9 (h := ?_)) | (apply g7; first | refine a8 (h := ?_)) | (apply o9; infer_instance; exact rfl; exact rfl) | (apply m9; refine l9 (h := fun _ => ?_)) | (apply m8; infer_instance; infer_instance; exact rfl; exact rfl; (first | exact rfl | omega); exact rfl; (first | assumption | omega | decide)) | ((first | apply s9 | apply x9 | apply z8 | apply s7 | apply s8 | apply w4 | apply z9 | apply w5)) | ((first | apply w6 | apply z6 | apply z0 | apply p5 | apply y0 | apply z7)))
        refine o0 (i + 1, (a_, cp_), N_) ⟨by dsimp only; omega, by dsimp only; rw [e1]; exact hO_⟩ (by dsimp only; omega) ?_ ?_
        · dsimp only; rw [e1]; exact fS_
        · exact hS_
    rw [if_neg h4] at e1
    obtain ⟨k, rfl⟩ := Int.eq_ofNat_of_zero_le (show 0 ≤ st by omega)
    obtain ⟨c, hc⟩ : ∃ c, caps[k]? = some c := ⟨_, List.getElem?_eq_getElem (by omega)⟩
    have hcd : caps.getD (k : Int).toNat 0 = c := by rw [Int.toNat_natCast, List.getD_eq_getElem?_getD, hc]; rfl
    rw [hcd] at e1
    obtain ⟨b2, off2, cc2, e2, fz2, rfl, hk2, hp2⟩ := hop0 (by omega)
    have g1 := hp2.one hc rfl
    by_cases hf : Srt.zt4 o k = c
    · rw [if_pos hf] at e1
      by_cases h0 : lf = 0
      · rw [if_pos h0] at e1
        as_aux_lemma =>
          repeat' (first | (apply v8; exact rfl; exact dT_) | (apply v9; exact rfl; exact dF_) | (apply n8; exact rfl; exact dT_; exact rfl; exact rfl) | (apply k9; exact rfl; exact dT_) | ((apply zc3 (m := k)); infer_instance; infer_instance; exact rfl; exact rfl; exact rfl; exact rfl; omega) | ((first | ((apply t8 (f := 68)); exact rfl) | ((apply t9 (f := 68)); exact rfl; kernel_rfl; exact rfl; exact sJ_)); exact eV_; exact (fun w hw => zB4 (k : Int) w (hO.sv ze4 (by exact rL_) hw))) | (apply zc4 (enc := zp1) (ys := [(⟨3, it, (k : Int)⟩ : Srt.Ev)]); infer_instance; infer_instance; infer_instance; exact rfl; exact ze4; exact zw3; exact rfl; exact rfl; exact rfl; assumption; exact rL_; (exact fun w hw => SV.lit [(⟨3, it, (k : Int)⟩ : Srt.Ev)] ze4 hw (by exact aT_) rfl rfl (by decide)); (first | decide | (constructor <;> (try simp only [List.length_cons, List.length_nil]) <;> omega) | (constructor <;> simp <;> omega)); intro a_ cp_ N_ hO_; have oN_ := hO_.own; (try simp only [List.nil_append, List.append_assoc] at hO_); (try simp only [List.append_eq, List.append_assoc, List.cons_append, List.nil_append])) | ((first | apply w9 | apply y8 | apply x8); exact rfl; exact rfl) | (apply w7; first | refine u9 (h := ?_) | refine y9 (h := ?_) | refine w8 (h := ?_) | refine q6 (h := ?_) | refine q0 (h := ?_)) | ((first | apply p3 | apply l0); exact rfl; exact rfl; exact rfl) | ((first | apply j0 | apply ze5); exact rfl; exact rfl; exact rfl; (constructor <;> omega)) | (apply o7; exact rfl; intro _) | (apply q7; first | refine q8 (h := ?_) | refine q9 (h := ?_)) | (apply g7; first | refine a8 (h := ?_)) | (apply o9; infer_instance; exact rfl; exact rfl) | (apply m9; refine l9 (h := fun _ => ?_)) | (apply m8; infer_instance; infer_instance; exact rfl; exact rfl; (first | exact rfl | omega); exact rfl; (first | assumption | omega | decide)) | ((first | apply s9 | apply x9 | apply z8 | apply s7 | apply s8 | apply w4 | apply z9 | apply w5)) | ((first | apply w6 | apply z6 | apply z0 | apply p5 | apply y0 | apply z7)) | ((apply p6 (id := 8) []); kernel_rfl; kernel_rfl) | (apply za6; try simp only [za9, List.cons_append, List.nil_append]) | ((first | apply i9 | apply n9 | apply m5); exact rfl; exact rfl) | (apply m0; first | refine k8 (h := ?_) | refine p7 (h := ?_) | refine m6 (h := ?_) | refine d8 (h := ?_) | refine d7 (h := ?_)) | ((first | apply ze6 | apply zi4); exact rfl; exact rfl; exact rfl))
          refine o0 (i + 1, (a_, cp_), N_) ⟨by dsimp only; omega, by dsimp only; rw [e1]; exact hO_⟩ (by dsimp only; omega) ?_ ?_
          · dsimp only; rw [e1]; exact fS_
          · exact hS_
      · rw [if_neg h0] at e1
        as_aux_lemma =>
          repeat' (first | (apply v8; exact rfl; exact dT_) | (apply v9; exact rfl; exact dF_) | (apply n8; exact rfl; exact dT_; exact rfl; exact rfl) | (apply k9; exact rfl; exact dT_) | ((apply zc3 (m := k)); infer_instance; infer_instance; exact rfl; exact rfl; exact rfl; exact rfl; omega) | ((first | ((apply t8 (f := 68)); exact rfl) | ((apply t9 (f := 68)); exact rfl; kernel_rfl; exact rfl; exact sJ_)); exact eV_; exact (fun w hw => zB4 (k : Int) w (hO.sv ze4 (by exact rL_) hw))) | (apply zc4 (enc := zp1) (ys := [(⟨2, it, (k : Int)⟩ : Srt.Ev)]); infer_instance; infer_instance; infer_instance; exact rfl; exact ze4; exact zw3; exact rfl; exact rfl; exact rfl; assumption; exact rL_; (exact fun w hw => SV.lit [(⟨2, it, (k : Int)⟩ : Srt.Ev)] ze4 hw (by exact aT_) rfl rfl (by decide)); (first | decide | (constructor <;> (try simp only [List.length_cons, List.length_nil]) <;> omega) | (constructor <;> simp <;> omega)); intro ap2 cp2 NP2 hP2; have oNP2 := hP2.own) | (apply zc4 (enc := zp1) (ys := [(⟨1, it, (k : Int)⟩ : Srt.Ev)]); infer_instance; infer_instance; infer_instance; exact rfl; exact ze4; exact zw3; exact rfl; exact rfl; exact rfl; assumption; exact rL_; (exact fun w hw => SV.lit [(⟨1, it, (k : Int)⟩ : Srt.Ev)] ze4 hw (by exact aT_) rfl rfl (by decide)); (first | decide | (constructor <;> (try simp only [List.length_cons, List.length_nil]) <;> omega) | (constructor <;> simp <;> omega)); intro a_ cp_ N_ hO_; have oN_ := hO_.own; (try simp only [List.nil_append, List.append_assoc] at hO_); (try simp only [List.append_eq, List.append_assoc, List.cons_append, List.nil_append])) | ((first | apply w9 | apply y8 | apply x8); exact rfl; exact rfl) | (apply w7; first | refine u9 (h := ?_) | refine y9 (h := ?_) | refine w8 (h := ?_) | refine q6 (h := ?_) | refine q0 (h := ?_)) | ((first | apply p3 | apply l0); exact rfl; exact rfl; exact rfl) | ((first | apply j0 | apply ze5); exact rfl; exact rfl; exact rfl; (constructor <;> omega)) | (apply o7; exact rfl; intro _) | (apply q7; first | refine q8 (h := ?_) | refine q9 (h := ?_)) | (apply g7; first | refine a8 (h := ?_)) | (apply o9; infer_instance; exact rfl; exact rfl) | (apply m9; refine l9 (h := fun _ => ?_)) | (apply m8; infer_instance; infer_instance; exact rfl; exact rfl; (first | exact rfl | omega); exact rfl; (first | assumption | omega | decide)) | ((first | apply s9 | apply x9 | apply z8 | apply s7 | apply s8 | apply w4 | apply z9 | apply w5)) | ((first | apply w6 | apply z6 | apply z0 | apply p5 | apply y0 | apply z7)) | ((apply p6 (id := 8) []); kernel_rfl; kernel_rfl) | (apply za6; try simp only [za9, List.cons_append, List.nil_append]) | ((first | apply i9 | apply n9 | apply m5); exact rfl; exact rfl) | (apply m0; first | refine k8 (h := ?_) | refine p7 (h := ?_) | refine m6 (h := ?_) | refine d8 (h := ?_) | refine d7 (h := ?_)) | ((first | apply ze6 | apply zi4); exact rfl; exact rfl; exact rfl))
          refine o0 (i + 1, (a_, cp_), N_) ⟨by dsimp only; omega, by dsimp only; rw [e1]; exact hO_⟩ (by dsimp only; omega) ?_ ?_
          · dsimp only; rw [e1]; exact fS_
          · exact hS_
    · rw [if_neg hf] at e1
      as_aux_lemma =>
        repeat' (first | (apply v8; exact rfl; exact dT_) | (apply v9; exact rfl; exact dF_) | (apply p9; exact rfl; exact dF_; exact rfl; exact rfl) | (apply za5; exact rfl; exact dF_; exact rfl) | ((apply zc3 (m := k)); infer_instance; infer_instance; exact rfl; exact rfl; exact rfl; exact rfl; omega) | ((first | ((apply t8 (f := 68)); exact rfl) | ((apply t9 (f := 68)); exact rfl; kernel_rfl; exact rfl; exact sJ_)); exact eV_; exact (fun w hw => zB4 (k : Int) w (hO.sv ze4 (by exact rL_) hw))) | (apply zc4 (enc := zp1) (ys := [(⟨1, it, (k : Int)⟩ : Srt.Ev)]); infer_instance; infer_instance; infer_instance; exact rfl; exact ze4; exact zw3; exact rfl; exact rfl; exact rfl; assumption; exact rL_; (exact fun w hw => SV.lit [(⟨1, it, (k : Int)⟩ : Srt.Ev)] ze4 hw (by exact aT_) rfl rfl (by decide)); (first | decide | (constructor <;> (try simp only [List.length_cons, List.length_nil]) <;> omega) | (constructor <;> simp <;> omega)); intro a_ cp_ N_ hO_; have oN_ := hO_.own; (try simp only [List.nil_append, List.append_assoc] at hO_); (try simp only [List.append_eq, List.append_assoc, List.cons_append, List.nil_append])) | ((first | apply w9 | apply y8 | apply x8); exact rfl; exact rfl) | (apply w7; first | refine u9 (h := ?_) | refine y9 (h := ?_) | refine w8 (h := ?_) | refine q6 (h := ?_) | refine q0 (h := ?_)) | ((first | apply p3 | apply l0); exact rfl; exact rfl; exact rfl) | ((first | apply j0 | apply ze5); exact rfl; exact rfl; exact rfl; (constructor <;> omega)) | (apply o7; exact rfl; intro _) | (apply q7; first | refine q8 (h := ?_) | refine q9 (h := ?_)) | (apply g7; first | refine a8 (h := ?_)) | (apply o9; infer_instance; exact rfl; exact rfl) | (apply m9; refine l9 (h := fun _ => ?_)) | (apply m8; infer_instance; infer_instance; exact rfl; exact rfl; (first | exact rfl | omega); exact rfl; (first | assumption | omega | decide)) | ((first | apply s9 | apply x9 | apply z8 | apply s7 | apply s8 | apply w4 | apply z9 | apply w5)) | (apply v9; exact rfl; exact fF_) | ((first | apply w6 | apply z6 | apply z0 | apply p5 | apply y0 | apply z7)) | ((apply p6 (id := 8) []); kernel_rfl; kernel_rfl) | (apply za6; try simp only [za9, List.cons_append, List.nil_append]) | ((first | apply i9 | apply n9 | apply m5); exact rfl; exact rfl) | (apply m0; first | refine k8 (h := ?_) | refine p7 (h := ?_) | refine m6 (h := ?_) | refine d8 (h := ?_) | refine d7 (h := ?_)) | ((first | apply ze6 | apply zi4); exact rfl; exact rfl; exact rfl))
        refine o0 (i + 1, (a_, cp_), N_) ⟨by dsimp only; omega, by dsimp only; rw [e1]; exact hO_⟩ (by dsimp only; omega) ?_ ?_
        · dsimp only; rw [e1]; exact fS_
        · exact hS_
  rw [List.take_of_length_le (by omega)] at hO ⊢
  have oO := hO.own
  repeat' (first | (apply v9; exact rfl; exact dF_) | ((first | apply w9 | apply y8 | apply x8); exact rfl; exact rfl) | ((first | apply p3 | apply l0); exact rfl; exact rfl; exact rfl) | (apply o9; infer_instance; exact rfl; exact rfl) | ((first | apply s9 | apply x9 | apply z8 | apply s7 | apply s8 | apply w4 | apply z9 | apply w5)) | ((first | apply w6 | apply z6 | apply z0 | apply p5 | apply y0 | apply z7)))
  apply p8; apply zb0 Try.results59; exact rV_; intro w' hw
  exact ⟨_, NO, rfl, ⟨ao, co, rfl, hO⟩, hw.sub (by exact hS_), oO⟩
end Go.Proofs.Ytdahckhlfldkkaa
