/- The law's two nets side by side: the document's list of items in rows that only stand, the net in rows of its own. -/
import Derived.Test.YtjcpamclggbbdaaNetU
import Derived.Test.YtjcpamclggbbdaaNruB
namespace Go.Proofs.Ytjcpamclggbbdaa.PNru
open Go.RowKit Go.Proofs.Ytjcpamclggbbdaa.PNgt Go.Proofs.YtjcpamclggbbdaaW.PrintWords Go.Proofs.YtjcpamclggbbdaaW.PrintLast Go.Proofs.YtjcpamclggbbdaaW.PrintMore
/-- The net at g, the document's items in v; P: the blocks of these. -/
structure St (P : Nat → Prop) (w W : World) (g : Nat) (v : Value) (x : List S56) (s : List S72) : Prop where
  hv : Kd.V k56 56 W 0 P v x
  hi : IsV P w W g s
  hb : Below w.heap.size w W
theorem C_none {W : World} {A : Option Addr} : Kd.C (Kd.int .u8) W A ([] : List Int).length [] := ⟨rfl, by simp, fun h => absurd h (by simp)⟩
theorem V_none {W : World} {A : Option Addr} {c : Nat} : Kd.V k56 56 W 0 (fun _ => False) (.slice A ([] : List S56).length c) [] := ⟨A, c, rfl, by simp, fun _ _ => ⟨rfl, by simp, fun h => absurd h (by simp)⟩⟩
section
variable {P P' Q : Nat → Prop} {w W W1 : World} {g gb : Nat} {v v' : Value} {x x' : List S56} {s s' : List S72}
theorem St.below (h : St P w W g v x s) (hb : Below W.heap.size W W1) : St P w W1 g v x s :=
  ⟨Kd.V_below h.hv hb, IsV.below h.hi hb, below_step h.hb hb⟩
theorem St.alloc (h : St P w W g v x s) (o : Obj) : St P w (W.alloc o) g v x s := h.below (below_alloc (Below.refl _ _) o)
theorem St.drewN (h : St P w W g v x s) (m : Nat) : St P w (W.drewN m) g v x s := h.below (pw_below_drewN (Below.refl _ _) m)
theorem St.drew (h : St P w W g v x s) : St P w W.drew g v x s := h.below (below_drew (Below.refl _ _))
theorem St.at_ {m : Nat} (hq : W.drewN m = W1) (h : St P w W g v x s) : St P w W1 g v x s := by subst hq; exact St.drewN h m
theorem St.lt (h : St P w W g v x s) : g < W.heap.size := IsV.lt h.hi
theorem St.plt (h : St P w W g v x s) (k : Nat) (hk : P k) : k < W.heap.size := (h.hi.2 k hk).1
theorem St.size (h : St P w W g v x s) : w.heap.size ≤ W.heap.size := h.hb.size
/-- A call on the net. -/
theorem St.net (h : St P w W g v x s) (hi : IsV P w W1 g s') (hb : Below w.heap.size w W1) (hk : KeepU P W W1 g) : St P w W1 g v x s' :=
  ⟨Kd.V_step h.hv (fun k hp _ => hk.2 k hp), hi, hb⟩
/-- A call of the document's. -/
theorem St.ref {b : Nat} (h : St P w W g v x s) (hb : Below W.heap.size W W1) (hv : Kd.V k56 56 W1 b (fun k => P k ∨ W.heap.size ≤ k) v' x') : St (fun k => (P k ∨ W.heap.size ≤ k) ∧ k < W1.heap.size) w W1 g v' x' s :=
  ⟨Kd.V_bound hv, IsV.next h.hi hb (fun _ hk => hk), below_step h.hb hb⟩
/-- A block of another type at which nothing of these lies. -/
def Bx (P : Nat → Prop) (w W : World) (g gb : Nat) (t : TypeId) : Prop := (∃ cs, W.heap[gb]? = some (.cells cs t (0, 0))) ∧ w.heap.size ≤ gb ∧ g ≠ gb ∧ (∀ k, P k → k ≠ gb) ∧ t ≠ 72 ∧ t ≠ 5
theorem St.set {t j : Nat} (h : St P w W g v x s) (hx : Bx P w W g gb t) (u : Value) : St P w (W.setCell ⟨gb, j, none⟩ u) g v x s ∧ Bx P w (W.setCell ⟨gb, j, none⟩ u) g gb t := by
  obtain ⟨⟨cs, h1⟩, h2, h3, h4, h5, h6⟩ := hx
  refine ⟨⟨Kd.V_far (p := ⟨gb, j, none⟩) h.hv (fun k hk => h4 k hk) u, ?_, h.hb.setCell (p := ⟨gb, j, none⟩) h2 _⟩, ⟨⟨_, blk_set h1 j u⟩, h2, h3, h4, h5, h6⟩⟩
  obtain ⟨⟨A, c, k1, k2, k3⟩, k4⟩ := h.hi
  refine ⟨⟨A, c, blk_far (p := ⟨gb, j, none⟩) k1 h3 u, Kd.R_set k2 h1 (by
    intro q hq e
    subst e
    simp [k72, Kd.iso, Kd.pair, Kd.slice, Kd.bool, Kd.int, Kd.scalar] at hq
    rcases hq with hq | hq
    · exact h5 hq
    · exact h6 hq) j u, k3⟩, fun k hk => ⟨by rw [size_setCell]; exact (k4 k hk).1, (k4 k hk).2⟩⟩
theorem St.far5 {a0 a1 a2 a3 a4 : Value} {t : Nat} (h : St P w W g v x s) (hx : Bx P w W g gb t) : St P w (((((W.setCell ⟨gb, 0, none⟩ a0).setCell ⟨gb, 1, none⟩ a1).setCell ⟨gb, 2, none⟩ a2).setCell ⟨gb, 3, none⟩ a3).setCell ⟨gb, 4, none⟩ a4) g v x s := by
  obtain ⟨h1, x1⟩ := St.set (j := 0) h hx a0
  obtain ⟨h2, x2⟩ := St.set (j := 1) h1 x1 a1
  obtain ⟨h3, x3⟩ := St.set (j := 2) h2 x2 a2
  obtain ⟨h4, x4⟩ := St.set (j := 3) h3 x3 a3
  exact (St.set (j := 4) h4 x4 a4).1
theorem St.far2 {a0 a1 : Value} {t : Nat} (h : St P w W g v x s) (hx : Bx P w W g gb t) : St P w ((W.setCell ⟨gb, 0, none⟩ a0).setCell ⟨gb, 1, none⟩ a1) g v x s := by
  obtain ⟨h1, x1⟩ := St.set (j := 0) h hx a0
  exact (St.set (j := 1) h1 x1 a1).1
theorem Bx.new {cs : Array Value} {t : Nat} (h : St P w W g v x s) (hg : gb = W.heap.size) (hb : W1.heap[gb]? = some (.cells cs t (0, 0))) (h7 : t ≠ 72) (h5 : t ≠ 5) : Bx P w W1 g gb t :=
  ⟨⟨cs, hb⟩, by rw [hg]; exact h.size, by rw [hg]; exact Nat.ne_of_lt h.lt, fun k hk => by rw [hg]; exact Nat.ne_of_lt (h.plt k hk), h7, h5⟩
/-- A row of bytes is under way. -/
def PendS (P : Nat → Prop) (w W1 : World) (g : Nat) (v : Value) (x : List S56) (s : List S72) (u : Value) (y : List Int) : Prop :=
  ∃ W, St P w W g v x s ∧ Below W.heap.size W W1 ∧ (Kd.int .u8).R 5 W1 W.heap.size (fun _ => True) u y
/-- The same, and a row of bytes that the law has of its own. -/
structure Su (P : Nat → Prop) (w W : World) (g : Nat) (v : Value) (x : List S56) (s : List S72) (u : Value) (y : List Int) : Prop where
  hv : Kd.V k56 56 W 0 P v x
  hi : IsV (fun k => P k ∨ some k = u.ownBlock) w W g s
  hb : Below w.heap.size w W
  ho : (Kd.int .u8).R 5 W w.heap.size (fun _ => True) u y
  hn : ∀ k, P k → some k ≠ u.ownBlock
variable {u : Value} {y y' : List Int}
theorem Su.below (h : Su P w W g v x s u y) (hb : Below W.heap.size W W1) : Su P w W1 g v x s u y :=
  ⟨Kd.V_below h.hv hb, IsV.below h.hi hb, below_step h.hb hb, Kd.R_below h.ho hb, h.hn⟩
theorem Su.alloc (h : Su P w W g v x s u y) (o : Obj) : Su P w (W.alloc o) g v x s u y := h.below (below_alloc (Below.refl _ _) o)
theorem Su.drewN (h : Su P w W g v x s u y) (m : Nat) : Su P w (W.drewN m) g v x s u y := h.below (pw_below_drewN (Below.refl _ _) m)
theorem Su.drew (h : Su P w W g v x s u y) : Su P w W.drew g v x s u y := h.below (below_drew (Below.refl _ _))
theorem Su.of (h : St P w W g v x s) (hb : Below W.heap.size W W1) (ho : (Kd.int .u8).R 5 W1 W.heap.size (fun _ => True) u y) : Su P w W1 g v x s u y :=
  ⟨Kd.V_below h.hv hb, IsV.next h.hi hb (fun k hk => by
    rcases hk with hk | hk
    · exact ⟨.inl hk, Nat.lt_of_lt_of_le (h.plt k hk) hb.size⟩
    · exact ⟨.inr (Kd.R_base ho k hk.symm), Kd.R_lt ho k hk.symm⟩), below_step h.hb hb, Kd.R_lower ho h.size, fun k hk e => by
    have h1 := h.plt k hk
    have h2 := Kd.R_base ho k e.symm
    omega⟩
theorem Su.less (h : Su P w W g v x s u y) : St P w W g v x s :=
  ⟨h.hv, IsV.next h.hi (Below.refl _ _) (fun k hk => ⟨.inl (.inl hk), (h.hi.2 k (.inl hk)).1⟩), h.hb⟩
theorem Su.own_ne (h : Su P w W g v x s u y) : some g ≠ u.ownBlock := IsS70.own_ne h.hi.any h.ho (by decide)
theorem Su.net (h : Su P w W g v x s u y) (hi : IsV (fun k => P k ∨ some k = u.ownBlock) w W1 g s') (hb : Below w.heap.size w W1) (hk : KeepU (fun k => P k ∨ some k = u.ownBlock) W W1 g) : Su P w W1 g v x s' u y :=
  ⟨Kd.V_step h.hv (fun k hp _ => hk.2 k (.inl hp)), hi, hb, Kd.R_mono (Kd.R_move (Kd.R_tight rfl h.ho) (fun k hk2 => hk.2 k (.inr hk2))) (fun _ _ => trivial), h.hn⟩
theorem Su.ref {b : Nat} (h : Su P w W g v x s u y) (hb : Below W.heap.size W W1) (hv : Kd.V k56 56 W1 b (fun k => P k ∨ W.heap.size ≤ k) v' x') : Su (fun k => (P k ∨ W.heap.size ≤ k) ∧ k < W1.heap.size) w W1 g v' x' s u y :=
  ⟨Kd.V_bound hv, IsV.next h.hi hb (fun k hk => by
    rcases hk with ⟨hk | hk, h2⟩ | hk
    · exact ⟨.inl (.inl hk), h2⟩
    · exact ⟨.inr hk, h2⟩
    · exact ⟨.inl (.inr hk), Nat.lt_of_lt_of_le (h.hi.2 k (.inr hk)).1 hb.size⟩), below_step h.hb hb, Kd.R_below h.ho hb, fun k hk e => by
    rcases hk.1 with h1 | h1
    · exact h.hn k h1 e
    · have := Kd.R_lt h.ho k e.symm
      omega⟩
/-- A store into the law's own row. -/
theorem Su.put (h : Su P w W g v x s u y) {u' : Value} (hg : W.grownBy W1 u.ownBlock) (ho : (Kd.int .u8).R 5 W1 w.heap.size (fun _ => True) u' y') (he : u'.ownBlock = u.ownBlock) (hb : Below w.heap.size w W1) : Su P w W1 g v x s u' y' := by
  refine ⟨Kd.V_grown h.hv hg (fun k hk => h.hn k hk), ?_, hb, ho, fun k hk => by rw [he]; exact h.hn k hk⟩
  rw [he]
  exact IsV.go h.hi (Kept.of_grown hg (Kept.refl W _) (fun k e => .inl e.symm) : Kept W W1 (fun k => some k = u.ownBlock)) (fun k hq => .inr hq) (fun k hk => ⟨.inl hk, Nat.lt_of_lt_of_le (h.hi.2 k hk).1 hg.size⟩)
end
end Go.Proofs.Ytjcpamclggbbdaa.PNru
