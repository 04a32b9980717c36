/- A disk beside rows of others: its bytes lie in a row of its own that is none of the others' (IsU); the disk's functions keep it so. -/
import Derived.Test.YthoeoooccmjjaaaDsk
import Derived.Test.YthoeoooccmjjaaaDruA
namespace Go.Proofs.Ythoeoooccmjjaaa.PDru
set_option linter.unusedVariables false
open Go.RowKit Go.Proofs.Ythoeoooccmjjaaa.PDsk Go.Proofs.YthoeoooccmjjaaaW.PrintWords Go.Proofs.YthoeoooccmjjaaaW.PrintLast Go.Proofs.YthoeoooccmjjaaaW.PrintMore
/-- The blocks of these rows. -/
def PS (vs : List Value) (k : Nat) : Prop := ∃ v, v ∈ vs ∧ some k = v.ownBlock
theorem PS.one {v : Value} {k : Nat} (h : PS [v] k) : some k = v.ownBlock := by
  obtain ⟨u, hu, e⟩ := h
  rw [List.mem_singleton.1 hu] at e
  exact e
theorem PS.two {u v : Value} {k : Nat} (h : PS [u, v] k) : some k = u.ownBlock ∨ some k = v.ownBlock := by
  obtain ⟨x, hx, e⟩ := h
  rcases List.mem_cons.1 hx with rfl | hx
  · exact .inl e
  · rw [List.mem_singleton.1 hx] at e
    exact .inr e
theorem PS.fst {u : Value} {vs : List Value} {k : Nat} (h : some k = u.ownBlock) : PS (u :: vs) k := ⟨u, List.mem_cons_self .., h⟩
theorem PS.snd {u v : Value} {vs : List Value} {k : Nat} (h : some k = v.ownBlock) : PS (u :: v :: vs) k := ⟨v, List.mem_cons_of_mem _ (List.mem_cons_self ..), h⟩
def IsU (P : Nat → Prop) (w0 W : World) (g : Nat) (f0 : ByteArray) (f1 : Int) (f2 : Int) (f3 : Int) (f4 : Bool) : Prop := IsN (fun k => ¬ P k) w0 W g f0 f1 f2 f3 f4 ∧ ∀ k, P k → k < W.heap.size
section
variable {P P' Q : Nat → Prop} {w0 W W1 : World} {g : Nat} {f0 : ByteArray} {f1 f2 f3 : Int} {f4 : Bool}
theorem IsU.any (h : IsU P w0 W g f0 f1 f2 f3 f4) : IsS49 w0 W g f0 f1 f2 f3 f4 := IsN.any h.1
theorem IsU.lt (h : IsU P w0 W g f0 f1 f2 f3 f4) : g < W.heap.size := IsS49.lt h.any
theorem IsU.ge (h : IsU P w0 W g f0 f1 f2 f3 f4) : w0.heap.size ≤ g := IsS49.ge h.any
theorem IsU.apart {α : Type} {d : Kd α} {e base : Nat} {ok : Nat → Prop} {v : Value} {xs : List α} (h : IsU P w0 W g f0 f1 f2 f3 f4) (ho : d.R e W base ok v xs) (ht : ∀ q, q ∈ e :: d.E → q ≠ 49) : d.R e W base (fun k => ok k ∧ k ≠ g) v xs := IsS49.apart h.any ho ht
theorem IsU.own_ne {α : Type} {d : Kd α} {e base : Nat} {ok : Nat → Prop} {v : Value} {xs : List α} (h : IsU P w0 W g f0 f1 f2 f3 f4) (ho : d.R e W base ok v xs) (ht : e ≠ 49) : some g ≠ v.ownBlock := IsS49.own_ne h.any ho ht
theorem IsU.ne_blk {a : Nat} {cs : Array Value} {t : TypeId} {fr : Nat × Nat} (h : IsU P w0 W g f0 f1 f2 f3 f4) (hb2 : W.heap[a]? = some (.cells cs t fr)) (ht : t ≠ 49) : g ≠ a := IsS49.ne_blk h.any hb2 ht
theorem IsU.below (h : IsU P w0 W g f0 f1 f2 f3 f4) (hb : Below W.heap.size W W1) : IsU P w0 W1 g f0 f1 f2 f3 f4 := ⟨IsN.below h.1 hb, fun k hk => Nat.lt_of_lt_of_le (h.2 k hk) hb.size⟩
theorem IsU.alloc (h : IsU P w0 W g f0 f1 f2 f3 f4) (o : Obj) : IsU P w0 (W.alloc o) g f0 f1 f2 f3 f4 := h.below (below_alloc (Below.refl _ _) o)
theorem IsU.drew (h : IsU P w0 W g f0 f1 f2 f3 f4) : IsU P w0 W.drew g f0 f1 f2 f3 f4 := by
  obtain ⟨⟨A, c, h1, h2, h3⟩, h4⟩ := h
  exact ⟨⟨A, c, h1, Kd.R_drew h2, h3⟩, h4⟩
theorem IsU.drewN (h : IsU P w0 W g f0 f1 f2 f3 f4) (m : Nat) : IsU P w0 (W.drewN m) g f0 f1 f2 f3 f4 := by
  obtain ⟨⟨A, c, h1, h2, h3⟩, h4⟩ := h
  exact ⟨⟨A, c, h1, Kd.R_drewN h2 m, h3⟩, h4⟩
theorem IsU.at_ {m : Nat} (hq : W.drewN m = W1) (h : IsU P w0 W g f0 f1 f2 f3 f4) : IsU P w0 W1 g f0 f1 f2 f3 f4 := by subst hq; exact IsU.drewN h m
/-- A store into a block of another type. -/
theorem IsU.farT {b j t : Nat} (h : IsU P w0 W g f0 f1 f2 f3 f4) (hb : ∃ cs, W.heap[b]? = some (.cells cs t (0, 0))) (ht : t ≠ 5) (hne : g ≠ b) (u : Value) : IsU P w0 (W.setCell ⟨b, j, none⟩ u) g f0 f1 f2 f3 f4 ∧ ∃ cs, (W.setCell ⟨b, j, none⟩ u).heap[b]? = some (.cells cs t (0, 0)) := by
  obtain ⟨⟨A, c, h1, h2, h3⟩, h4⟩ := h
  obtain ⟨cs, hb⟩ := hb
  refine ⟨⟨⟨A, c, ?_, ?_, h3⟩, ?_⟩, ⟨_, blk_set hb j u⟩⟩
  · exact blk_far (p := ⟨b, j, none⟩) h1 hne u
  · exact Kd.R_set h2 hb (by intro q hq; simp [Kd.int, Kd.scalar] at hq; omega) j u
  · intro k hk
    have := h4 k hk
    simpa using this
theorem IsU.far3 {b : Nat} {x y z : Value} (h : IsU P w0 W g f0 f1 f2 f3 f4) (hb : ∃ cs, W.heap[b]? = some (.cells cs 34 (0, 0))) (hne : g ≠ b) : IsU P w0 (((W.setCell ⟨b, 0, none⟩ x).setCell ⟨b, 1, none⟩ y).setCell ⟨b, 2, none⟩ z) g f0 f1 f2 f3 f4 := by
  obtain ⟨h1, hb1⟩ := IsU.farT (j := 0) h hb (by decide) hne x
  obtain ⟨h2, hb2⟩ := IsU.farT (j := 1) h1 hb1 (by decide) hne y
  exact (IsU.farT (j := 2) h2 hb2 (by decide) hne z).1
theorem IsU.far5 {b : Nat} {x y z s t : Value} (h : IsU P w0 W g f0 f1 f2 f3 f4) (hb : ∃ cs, W.heap[b]? = some (.cells cs 41 (0, 0))) (hne : g ≠ b) : IsU P w0 (((((W.setCell ⟨b, 0, none⟩ x).setCell ⟨b, 1, none⟩ y).setCell ⟨b, 2, none⟩ z).setCell ⟨b, 3, none⟩ s).setCell ⟨b, 4, none⟩ t) g f0 f1 f2 f3 f4 := by
  obtain ⟨h1, hb1⟩ := IsU.farT (j := 0) h hb (by decide) hne x
  obtain ⟨h2, hb2⟩ := IsU.farT (j := 1) h1 hb1 (by decide) hne y
  obtain ⟨h3, hb3⟩ := IsU.farT (j := 2) h2 hb2 (by decide) hne z
  obtain ⟨h4, hb4⟩ := IsU.farT (j := 3) h3 hb3 (by decide) hne s
  exact (IsU.farT (j := 4) h4 hb4 (by decide) hne t).1
/-- Rows of others change, others come. -/
theorem IsU.go (h : IsU P w0 W g f0 f1 f2 f3 f4) (hk : Kept W W1 Q) (hQ : ∀ k, Q k → P k) (hg : ¬ Q g) (hP : ∀ k, P' k → (P k ∨ W.heap.size ≤ k) ∧ k < W1.heap.size) : IsU P' w0 W1 g f0 f1 f2 f3 f4 := by
  obtain ⟨⟨A, c, h1, h2, h3⟩, h4⟩ := h
  have hg2 : g < W.heap.size := blk_lt h1
  refine ⟨⟨A, c, ?_, ?_, h3⟩, fun k hk => (hP k hk).2⟩
  · exact (hk.2 g hg2 hg).trans h1
  · have hb : Kd.R (Kd.int .u8) 5 W w0.heap.size (fun k => ¬ P k ∧ k < W.heap.size) (.slice A (nb f0).length c) (nb f0) := Kd.R_mono (Kd.R_bound h2) (fun k hk => ⟨hk.1, hk.2.2.1⟩)
    refine Kd.R_mono (Kd.R_move hb (fun k hk2 => hk.2 k hk2.2 (fun hq => hk2.1 (hQ k hq)))) (fun k hk2 hp => ?_)
    rcases (hP k hp).1 with h5 | h5
    · exact hk2.1 h5
    · omega
theorem IsU.of (h : IsS49 w0 W g f0 f1 f2 f3 f4) : IsU (PS []) w0 W g f0 f1 f2 f3 f4 := by
  obtain ⟨A, c, h1, h2, h3⟩ := h
  exact ⟨⟨A, c, h1, Kd.R_mono h2 (fun k _ hp => by obtain ⟨v, hv, _⟩ := hp; cases hv), h3⟩, fun k hp => by obtain ⟨v, hv, _⟩ := hp; cases hv⟩
theorem IsU.next0 {v : Value} {xs : List Int} {ok : Nat → Prop} (h : IsU P w0 W g f0 f1 f2 f3 f4) (hb : Below W.heap.size W W1) (ho : Kd.R (Kd.int .u8) 5 W1 W.heap.size ok v xs) : IsU (PS [v]) w0 W1 g f0 f1 f2 f3 f4 :=
  IsU.go h (Kept.of_below hb (fun _ => False)) (fun _ hq => hq.elim) (fun hq => hq) (fun k hk => ⟨.inr (Kd.R_base ho k (PS.one hk).symm), Kd.R_lt ho k (PS.one hk).symm⟩)
theorem IsU.next1 {u v : Value} {xs : List Int} {ok : Nat → Prop} (h : IsU (PS [u]) w0 W g f0 f1 f2 f3 f4) (hb : Below W.heap.size W W1) (ho : Kd.R (Kd.int .u8) 5 W1 W.heap.size ok v xs) : IsU (PS [u, v]) w0 W1 g f0 f1 f2 f3 f4 :=
  IsU.go h (Kept.of_below hb (fun _ => False)) (fun _ hq => hq.elim) (fun hq => hq) (fun k hk => by
    rcases PS.two hk with e | e
    · have h5 := h.2 k (PS.fst e)
      exact ⟨.inl (PS.fst e), Nat.lt_of_lt_of_le h5 hb.size⟩
    · exact ⟨.inr (Kd.R_base ho k e.symm), Kd.R_lt ho k e.symm⟩)
theorem Kept.of_grows {row : Option Nat} (hg : W.grownBy W1 row) : Kept W W1 (fun k => some k = row) := Kept.of_grown hg (Kept.refl W _) (fun k e => .inl e.symm)
theorem IsU.grownO {u v v1 : Value} {ys : List Int} {base : Nat} {ok : Nat → Prop} (h : IsU (PS [u, v]) w0 W g f0 f1 f2 f3 f4) (hg : W.grownBy W1 v.ownBlock) (hne : some g ≠ v.ownBlock) (ho : Kd.R (Kd.int .u8) 5 W1 base ok v1 ys) (hat : v1.ownBlock = v.ownBlock ∨ ∃ b, v1.ownBlock = some b ∧ W.heap.size ≤ b) : IsU (PS [u, v1]) w0 W1 g f0 f1 f2 f3 f4 :=
  IsU.go h (Kept.of_grows hg) (fun k hq => PS.snd hq) hne (fun k hk => by
    have hs := (Kept.of_grows hg).1
    rcases PS.two hk with e | e
    · exact ⟨.inl (PS.fst e), Nat.lt_of_lt_of_le (h.2 k (PS.fst e)) hs⟩
    · refine ⟨?_, Kd.R_lt ho k e.symm⟩
      rcases hat with h5 | ⟨b, h5, h6⟩
      · exact .inl (PS.snd (e.trans h5))
      · rw [h5] at e
        injection e with e
        exact .inr (by omega))
theorem IsU.grownP {row : Option Nat} (h : IsU P w0 W g f0 f1 f2 f3 f4) (hg : W.grownBy W1 row) (hne : some g ≠ row) (hp : ∀ k, some k = row → P k) : IsU P w0 W1 g f0 f1 f2 f3 f4 :=
  IsU.go h (Kept.of_grows hg) hp hne (fun k hk => ⟨.inl hk, Nat.lt_of_lt_of_le (h.2 k hk) (Kept.of_grows hg).1⟩)
theorem IsU.kept1 {u v : Value} {xs : List Int} {base : Nat} (h : IsU (PS [u]) w0 W g f0 f1 f2 f3 f4) (hk : Kept W W1 (fun k => some k = u.ownBlock)) (hg : some g = u.ownBlock → False) (ho : Kd.R (Kd.int .u8) 5 W1 base (fun k => some k = u.ownBlock ∨ W.heap.size ≤ k) v xs) : IsU (PS [v]) w0 W1 g f0 f1 f2 f3 f4 :=
  IsU.go h hk (fun k hq => PS.fst hq) hg (fun k hp => ⟨(ho.1 k (PS.one hp).symm).imp PS.fst id, Kd.R_lt ho k (PS.one hp).symm⟩)
theorem IsU.kept2 {u v o : Value} {xs : List Int} {base : Nat} (h : IsU (PS [u, o]) w0 W g f0 f1 f2 f3 f4) (hk : Kept W W1 (fun k => some k = u.ownBlock)) (hg : some g = u.ownBlock → False) (ho : Kd.R (Kd.int .u8) 5 W1 base (fun k => some k = u.ownBlock ∨ W.heap.size ≤ k) v xs) : IsU (PS [v, o]) w0 W1 g f0 f1 f2 f3 f4 :=
  IsU.go h hk (fun k hq => PS.fst hq) hg (fun k hp => by
    rcases PS.two hp with e | e
    · exact ⟨(ho.1 k e.symm).imp PS.fst id, Kd.R_lt ho k e.symm⟩
    · exact ⟨.inl (PS.snd e), Nat.lt_of_lt_of_le (h.2 k (PS.snd e)) hk.1⟩)
theorem IsU.less {u o : Value} (h : IsU (PS [u, o]) w0 W g f0 f1 f2 f3 f4) : IsU (PS [u]) w0 W g f0 f1 f2 f3 f4 :=
  IsU.go h (Kept.refl W (fun _ => False)) (fun _ hq => hq.elim) (fun hq => hq) (fun k hp => ⟨.inl (PS.fst (PS.one hp)), h.2 k (PS.fst (PS.one hp))⟩)
theorem IsU.set_1 (h : IsU P w0 W g f0 f1 f2 f3 f4) (x : Int) : IsU P w0 (W.setCell ⟨g, 1, none⟩ (.int .i64 x)) g f0 x f2 f3 f4 := by
  obtain ⟨⟨A, c, h1, h2, h3⟩, h4⟩ := h
  exact ⟨⟨A, c, Dk.At.set1 h1 x, Dk.R_setD h1 h2, h3⟩, fun k hk => by simpa using h4 k hk⟩
theorem IsU.set_2 (h : IsU P w0 W g f0 f1 f2 f3 f4) (x : Int) : IsU P w0 (W.setCell ⟨g, 2, none⟩ (.int .i64 x)) g f0 f1 x f3 f4 := by
  obtain ⟨⟨A, c, h1, h2, h3⟩, h4⟩ := h
  exact ⟨⟨A, c, Dk.At.set2 h1 x, Dk.R_setD h1 h2, h3⟩, fun k hk => by simpa using h4 k hk⟩
theorem IsU.set_3 (h : IsU P w0 W g f0 f1 f2 f3 f4) (x : Int) : IsU P w0 (W.setCell ⟨g, 3, none⟩ (.int .i64 x)) g f0 f1 f2 x f4 := by
  obtain ⟨⟨A, c, h1, h2, h3⟩, h4⟩ := h
  exact ⟨⟨A, c, Dk.At.set3 h1 x, Dk.R_setD h1 h2, h3⟩, fun k hk => by simpa using h4 k hk⟩
end
/-- What an Append keeps: all blocks that are neither the state's nor of bytes, and the rows of others. -/
def KeepU (P : Nat → Prop) (w w' : World) (g : Nat) : Prop := KeepT w w' g ∧ ∀ k, P k → k ≠ g → w'.heap[k]? = w.heap[k]?
theorem R_keepU {P : Nat → Prop} {w w1 : World} {g base : Nat} {ok : Nat → Prop} {v : Value} {xs : List Int} (h : Kd.R (Kd.int .u8) 5 w base ok v xs) (hk : KeepU P w w1 g) (hP : ∀ k, some k = v.ownBlock → P k) (hg : some g ≠ v.ownBlock) : Kd.R (Kd.int .u8) 5 w1 base ok v xs :=
  Kd.R_mono (Kd.R_move (Kd.R_tight2 rfl h) (fun k hk2 => hk.2 k (hP k hk2.1) (fun e => hg (by rw [← e]; exact hk2.1)))) (fun k hk2 => hk2.2)

theorem disk_Disk_Limit.calls (P : Nat → Prop) (g : Nat) (s0_0 : ByteArray) (s0_1 : Int) (s0_2 : Int) (s0_3 : Int) (s0_4 : Bool) (a1 : Int) (r1 : ByteArray) (r2 : Int) (r3 : Int) (r4 : Int) (r5 : Bool) (w0 w : World) (hI : IsU P w0 w g s0_0 s0_1 s0_2 s0_3 s0_4) (hB : Below w0.heap.size w0 w) (h : disk_Disk_Limit.f s0_0 s0_1 s0_2 s0_3 s0_4 a1 = some (r1, r2, r3, r4, r5)) :
    Calls Try.prog 23 #[.pointer (some ⟨g, 0, none⟩), .int .i64 a1] w fun e w' => e = .returned (.tuple #[]) ∧ IsU P w0 w' g r1 r2 r3 r4 r5 ∧ Below w0.heap.size w0 w' ∧ KeepBut w w' g none := by
  simp only [disk_Disk_Limit.f, Option.some.injEq, Prod.mk.injEq] at h
  obtain ⟨rfl, rfl, rfl, rfl, rfl⟩ := h
  obtain ⟨⟨A, c, h1, h2, h3⟩, hP⟩ := id hI
  refine (Dk.limit g _ _ _ _ a1 _ w h1).mono ?_
  rintro e w' ⟨rfl, rfl⟩
  exact ⟨rfl, IsU.set_2 hI _, hB.setCell (p := ⟨g, 2, none⟩) h3 _, KeepBut.set_ (KeepBut.refl w g none) 2 _⟩
theorem disk_Disk_Safe.calls (P : Nat → Prop) (g : Nat) (s0_0 : ByteArray) (s0_1 : Int) (s0_2 : Int) (s0_3 : Int) (s0_4 : Bool) (r1 : Int) (r2 : ByteArray) (r3 : Int) (r4 : Int) (r5 : Int) (r6 : Bool) (w0 w : World) (hI : IsU P w0 w g s0_0 s0_1 s0_2 s0_3 s0_4) (hB : Below w0.heap.size w0 w) (h : disk_Disk_Safe.f s0_0 s0_1 s0_2 s0_3 s0_4 = some (r1, r2, r3, r4, r5, r6)) :
    Calls Try.prog 13 #[.pointer (some ⟨g, 0, none⟩)] w fun e w' => e = .returned (.int .i64 r1) ∧ IsU P w0 w' g r2 r3 r4 r5 r6 ∧ Below w0.heap.size w0 w' ∧ KeepBut w w' g none := by
  simp only [disk_Disk_Safe.f, Option.some.injEq, Prod.mk.injEq] at h
  obtain ⟨rfl, rfl, rfl, rfl, rfl, rfl⟩ := h
  obtain ⟨⟨A, c, h1, h2, h3⟩, hP⟩ := id hI
  refine (Dk.safe g _ _ _ _ _ w h1).mono ?_
  rintro e w' ⟨rfl, rfl⟩
  exact ⟨rfl, hI, hB, KeepBut.refl _ _ _⟩
theorem disk_Disk_Off.calls (P : Nat → Prop) (g : Nat) (s0_0 : ByteArray) (s0_1 : Int) (s0_2 : Int) (s0_3 : Int) (s0_4 : Bool) (r1 : Bool) (r2 : ByteArray) (r3 : Int) (r4 : Int) (r5 : Int) (r6 : Bool) (w0 w : World) (hI : IsU P w0 w g s0_0 s0_1 s0_2 s0_3 s0_4) (hB : Below w0.heap.size w0 w) (h : disk_Disk_Off.f s0_0 s0_1 s0_2 s0_3 s0_4 = some (r1, r2, r3, r4, r5, r6)) :
    Calls Try.prog 14 #[.pointer (some ⟨g, 0, none⟩)] w fun e w' => e = .returned (.bool r1) ∧ IsU P w0 w' g r2 r3 r4 r5 r6 ∧ Below w0.heap.size w0 w' ∧ KeepBut w w' g none := by
  simp only [disk_Disk_Off.f, Option.some.injEq, Prod.mk.injEq] at h
  obtain ⟨rfl, rfl, rfl, rfl, rfl, rfl⟩ := h
  obtain ⟨⟨A, c, h1, h2, h3⟩, hP⟩ := id hI
  refine (Dk.off g _ _ _ _ _ w h1).mono ?_
  rintro e w' ⟨rfl, rfl⟩
  exact ⟨rfl, hI, hB, KeepBut.refl _ _ _⟩
theorem disk_Disk_Fuse.calls (P : Nat → Prop) (g : Nat) (s0_0 : ByteArray) (s0_1 : Int) (s0_2 : Int) (s0_3 : Int) (s0_4 : Bool) (a1 : Int) (r1 : ByteArray) (r2 : Int) (r3 : Int) (r4 : Int) (r5 : Bool) (w0 w : World) (hI : IsU P w0 w g s0_0 s0_1 s0_2 s0_3 s0_4) (hB : Below w0.heap.size w0 w) (h : disk_Disk_Fuse.f s0_0 s0_1 s0_2 s0_3 s0_4 a1 = some (r1, r2, r3, r4, r5)) :
    Calls Try.prog 15 #[.pointer (some ⟨g, 0, none⟩), .int .i64 a1] w fun e w' => e = .returned (.tuple #[]) ∧ IsU P w0 w' g r1 r2 r3 r4 r5 ∧ Below w0.heap.size w0 w' ∧ KeepBut w w' g none := by
  simp only [disk_Disk_Fuse.f, Option.some.injEq, Prod.mk.injEq] at h
  obtain ⟨rfl, rfl, rfl, rfl, rfl⟩ := h
  obtain ⟨⟨A, c, h1, h2, h3⟩, hP⟩ := id hI
  refine (Dk.fuse g _ _ _ _ a1 _ w h1).mono ?_
  rintro e w' ⟨rfl, rfl⟩
  exact ⟨rfl, IsU.set_3 hI _, hB.setCell (p := ⟨g, 3, none⟩) h3 _, KeepBut.set_ (KeepBut.refl w g none) 3 _⟩
theorem disk_Disk_Sync.calls (P : Nat → Prop) (g : Nat) (s0_0 : ByteArray) (s0_1 : Int) (s0_2 : Int) (s0_3 : Int) (s0_4 : Bool) (r1 : ByteArray) (r2 : Int) (r3 : Int) (r4 : Int) (r5 : Bool) (w0 w : World) (hI : IsU P w0 w g s0_0 s0_1 s0_2 s0_3 s0_4) (hB : Below w0.heap.size w0 w) (h : disk_Disk_Sync.f s0_0 s0_1 s0_2 s0_3 s0_4 = some (r1, r2, r3, r4, r5)) :
    Calls Try.prog 16 #[.pointer (some ⟨g, 0, none⟩)] w fun e w' => e = .returned (.tuple #[]) ∧ IsU P w0 w' g r1 r2 r3 r4 r5 ∧ Below w0.heap.size w0 w' ∧ KeepBut w w' g none := by
  obtain ⟨⟨A, c, h1, h2, h3⟩, hP⟩ := id hI
  refine (Dk.sync g _ _ _ _ _ _ _ w h1).mono ?_
  rintro e w' ⟨rfl, rfl⟩
  refine ⟨rfl, ?_⟩
  unfold disk_Disk_Sync.f at h
  cases s0_4
  · simp only [Bool.false_eq_true, if_false, Option.some.injEq, Prod.mk.injEq] at h ⊢
    obtain ⟨rfl, rfl, rfl, rfl, rfl⟩ := h
    rw [nb_length]
    exact ⟨IsU.set_1 hI _, hB.setCell (p := ⟨g, 1, none⟩) h3 _, KeepBut.set_ (KeepBut.refl w g none) 1 _⟩
  · simp only [if_true, Option.some.injEq, Prod.mk.injEq] at h ⊢
    obtain ⟨rfl, rfl, rfl, rfl, rfl⟩ := h
    exact ⟨hI, hB, KeepBut.refl _ _ _⟩
theorem disk_Disk_Bytes.calls (P : Nat → Prop) (g : Nat) (s0_0 : ByteArray) (s0_1 : Int) (s0_2 : Int) (s0_3 : Int) (s0_4 : Bool) (r1 : List Int) (r2 : ByteArray) (r3 : Int) (r4 : Int) (r5 : Int) (r6 : Bool) (w0 w : World) (hI : IsU P w0 w g s0_0 s0_1 s0_2 s0_3 s0_4) (hB : Below w0.heap.size w0 w) (h : disk_Disk_Bytes.f s0_0 s0_1 s0_2 s0_3 s0_4 = some (r1, r2, r3, r4, r5, r6)) :
    Calls Try.prog 12 #[.pointer (some ⟨g, 0, none⟩)] w fun e w' => ∃ v0_ : Value, e = .returned (v0_) ∧ Kd.R (Kd.int .u8) 5 w' w.heap.size (fun _ => True) v0_ r1 ∧ IsU P w0 w' g r2 r3 r4 r5 r6 ∧ Below w0.heap.size w0 w' ∧ KeepBut w w' g none := by
  unfold disk_Disk_Bytes.f at h
  split at h
  · simp only [Option.some.injEq, Prod.mk.injEq] at h
    obtain ⟨rfl, rfl, rfl, rfl, rfl, rfl⟩ := h
    obtain ⟨⟨A, c, h1, h2, h3⟩, hP⟩ := id hI
    refine (Dk.bytes g _ _ _ _ _ _ _ w h1 (Kd.R_reads' h2).2.2 (by rw [nb_length]; assumption)).mono ?_
    rintro e w' ⟨u, rfl, hu, hb⟩
    exact ⟨u, rfl, hu, IsU.below hI hb, hB.trans (hb.mono hB.size), KeepBut.of_below hb _ _⟩
  · cases h
theorem left_stateU {P : Nat → Prop} {w w0 w' : World} {g n c : Nat} {A : Option Addr} {d : ByteArray} {bs xs : List Int} {s r f : Int} {o : Bool} (hb : inB bs) (hP : ∀ k, P k → k < w.heap.size) (hR : Kd.R (Kd.int .u8) 5 w w0.heap.size (fun k => ¬ P k) (.slice A n c) xs) (hg : w0.heap.size ≤ g) (h : Dk.Left w w0 w' w0.heap.size g A n c (nb d ++ bs) s r f o) :
    IsU P w0 w' g (d ++ strOfNums bs) s r f o ∧ Below w0.heap.size w0 w' ∧ KeepU P w w' g := by
  obtain ⟨A', c', h1, h2, h3, h4, h5⟩ := h
  rw [← nb_app d bs hb] at h1 h2 h5
  refine ⟨⟨⟨A', c', h1, Kd.R_mono (Kd.R_tight rfl h2) (fun k hk hp => ?_), hg⟩, fun k hk => Nat.lt_of_lt_of_le (hP k hk) h4.1⟩, h3, KeepT.of_kept h4 hR, fun k hk hne => h4.2 k (hP k hk) ?_⟩
  · rcases h5 with h5 | ⟨b, h5, h6⟩
    · exact hR.1 k (h5 ▸ hk).symm hp
    · rw [h5] at hk
      injection hk with hk
      have := hP k hp
      omega
  · rintro (h6 | h6)
    · exact hne h6
    · exact hR.1 k h6.symm hk
theorem disk_Disk_Append.calls (P : Nat → Prop) (g : Nat) (s0_0 : ByteArray) (s0_1 : Int) (s0_2 : Int) (s0_3 : Int) (s0_4 : Bool) (A1 : Option Addr) (c1 : Nat) (l1 : List Int) (r1 : Int) (r2 : ByteArray) (r3 : Int) (r4 : Int) (r5 : Int) (r6 : Bool) (w0 w : World) (hI : IsU P w0 w g s0_0 s0_1 s0_2 s0_3 s0_4) (hB : Below w0.heap.size w0 w) (hr1 : Kd.C (Kd.int .u8) w A1 l1.length l1) (hc1 : l1.length ≤ c1) (hf1 : ∀ ad, A1 = some ad → 0 < l1.length → ad.block ≠ g) (h : disk_Disk_Append.f s0_0 s0_1 s0_2 s0_3 s0_4 l1 = some (r1, r2, r3, r4, r5, r6)) :
    Calls Try.prog 11 #[.pointer (some ⟨g, 0, none⟩), .slice A1 l1.length c1] w fun e w' => e = .returned (.int .i64 r1) ∧ IsU P w0 w' g r2 r3 r4 r5 r6 ∧ Below w0.heap.size w0 w' ∧ KeepU P w w' g := by
  obtain ⟨⟨A, c, h1, hN, h3⟩, hP⟩ := id hI
  have h2 : Kd.R (Kd.int .u8) 5 w w0.heap.size (fun _ => True) (.slice A (nb s0_0).length c) (nb s0_0) := Kd.R_mono hN (fun _ _ => trivial)
  unfold disk_Disk_Append.f at h
  split at h
  case isFalse => cases h
  case isTrue hG =>
  obtain ⟨⟨g1, g2, g3, g4, g5, g6, g7⟩, hin⟩ := hG
  have hl := nb_length s0_0
  split at h
  · simp only [Option.some.injEq, Prod.mk.injEq] at h
    obtain ⟨rfl, rfl, rfl, rfl, rfl, rfl⟩ := h
    rename_i ho
    subst ho
    refine (Dk.append_off g _ _ _ _ _ w h1).mono ?_
    rintro e w' ⟨rfl, rfl⟩
    exact ⟨rfl, hI, hB, ⟨KeepT.refl _ _, fun _ _ _ => rfl⟩⟩
  rename_i ho
  obtain rfl : s0_4 = false := by simpa using ho
  split at h
  · rename_i hm
    simp only [Option.some.injEq, Prod.mk.injEq] at h
    obtain ⟨rfl, rfl, rfl, rfl, rfl, rfl⟩ := h
    refine (Dk.append_full g A A1 _ c _ c1 _ _ _ w h1 (by omega) g4 g5 (by rw [hl]; exact hm)).mono ?_
    rintro e w' ⟨rfl, rfl⟩
    exact ⟨rfl, IsU.drew hI, hB.drew, ⟨KeepT.drew (KeepT.refl _ _), fun _ _ _ => rfl⟩⟩
  rename_i hm
  have hm' : (l1.length : Int) ≤ mx 0 (s0_2 - ((nb s0_0).length : Int)) := by rw [hl]; omega
  split at h
  · rename_i hf
    simp only [Option.some.injEq, Prod.mk.injEq] at h
    obtain ⟨rfl, rfl, rfl, rfl, rfl, rfl⟩ := h
    subst hf
    refine (Dk.append_fits g A A1 c c1 _ l1 _ _ w w0 _ h1 h2 hr1 hB h3 (by omega) g4 g5 hm').mono ?_
    rintro e w' ⟨rfl, hL⟩
    exact ⟨rfl, left_stateU hin hP hN h3 hL⟩
  rename_i hf
  split at h
  · rename_i hf2
    simp only [Option.some.injEq, Prod.mk.injEq] at h
    obtain ⟨rfl, rfl, rfl, rfl, rfl, rfl⟩ := h
    refine (Dk.append_less g A A1 c c1 _ l1 _ _ _ w w0 _ h1 h2 hr1 hf1 hB h3 (by omega) g4 g5 hm' hf2 g7).mono ?_
    rintro e w' ⟨rfl, hL⟩
    exact ⟨rfl, left_stateU hin hP hN h3 hL⟩
  · rename_i hf2
    simp only [Option.some.injEq, Prod.mk.injEq] at h
    obtain ⟨rfl, rfl, rfl, rfl, rfl, rfl⟩ := h
    refine (Dk.append_blow g A A1 c c1 _ l1 _ _ _ w w0 _ h1 h2 hr1 hf1 hB h3 (by omega) g4 g5 hm' hc1 (by omega) (by omega)).mono ?_
    rintro e w' ⟨rfl, hL⟩
    exact ⟨rfl, left_stateU (inB_take hin _) hP hN h3 hL⟩
theorem cut_stateU {P : Nat → Prop} {w w0 w' : World} {g c m : Nat} {A : Option Addr} {d : ByteArray} {s r f s' f' : Int} {o' : Bool} (hP : ∀ k, P k → k < w.heap.size) (h2 : Kd.R (Kd.int .u8) 5 w w0.heap.size (fun k => ¬ P k) (.slice A (nb d).length c) (nb d)) (hg : w0.heap.size ≤ g) (hm : m ≤ (nb d).length) (h1 : Dk.At w' g (.slice A m c) s' r f' o') (hne : some g ≠ (.slice A (nb d).length c : Value).ownBlock) (hk : KeepBut w w' g none) :
    IsU P w0 w' g (strOfNums ((nb d).take m)) s' r f' o' := by
  have hlen : ((nb d).take m).length = m := by rw [List.length_take]; omega
  refine ⟨⟨A, c, by rw [nb_take, hlen]; exact h1, ?_, hg⟩, fun k hp => Nat.lt_of_lt_of_le (hP k hp) hk.1⟩
  rw [nb_take, hlen]
  have hh : Kd.R (Kd.int .u8) 5 w' w0.heap.size (fun k => ¬ P k) (.slice A (nb d).length c) (nb d) := Kd.R_mono (Kd.R_keep (Kd.R_tight2 rfl h2) hk (fun k hk e => hne (by rw [← e]; exact hk.1))) (fun _ hk => hk.2)
  exact Kd.R_take hh hm
theorem disk_Disk_Crash.calls (P : Nat → Prop) (g : Nat) (s0_0 : ByteArray) (s0_1 : Int) (s0_2 : Int) (s0_3 : Int) (s0_4 : Bool) (a1 : Int) (r1 : ByteArray) (r2 : Int) (r3 : Int) (r4 : Int) (r5 : Bool) (w0 w : World) (hI : IsU P w0 w g s0_0 s0_1 s0_2 s0_3 s0_4) (hB : Below w0.heap.size w0 w) (h : disk_Disk_Crash.f s0_0 s0_1 s0_2 s0_3 s0_4 a1 = some (r1, r2, r3, r4, r5)) :
    Calls Try.prog 17 #[.pointer (some ⟨g, 0, none⟩), .int .i64 a1] w fun e w' => e = .returned (.tuple #[]) ∧ IsU P w0 w' g r1 r2 r3 r4 r5 ∧ Below w0.heap.size w0 w' ∧ KeepBut w w' g none := by
  obtain ⟨⟨A, c, h1, h2, h3⟩, hP⟩ := id hI
  unfold disk_Disk_Crash.f at h
  split at h
  case isFalse => cases h
  case isTrue hG =>
  obtain ⟨g1, g2, g3, g4, g5, g6, g7⟩ := hG
  have hl := nb_length s0_0
  simp only [Option.some.injEq, Prod.mk.injEq] at h
  obtain ⟨rfl, rfl, rfl, rfl, rfl⟩ := h
  have hn := Dk.R_none h2
  refine (Dk.crash g A _ c _ _ _ _ a1 w h1 g2 (by omega) (by omega) hn.1 hn.2).mono ?_
  rintro e w' ⟨rfl, m, hm, hle, hat, hb, hk⟩
  rw [hl] at hm
  rw [← hm]
  exact ⟨rfl, cut_stateU (s := s0_1) (f := s0_3) hP h2 h3 hle hat (Kd.R_ne h2 h1 (by decide)) hk, hB.trans (hb.mono h3), hk⟩
theorem disk_Disk_Cut.calls (P : Nat → Prop) (g : Nat) (s0_0 : ByteArray) (s0_1 : Int) (s0_2 : Int) (s0_3 : Int) (s0_4 : Bool) (a1 : Int) (r1 : ByteArray) (r2 : Int) (r3 : Int) (r4 : Int) (r5 : Bool) (w0 w : World) (hI : IsU P w0 w g s0_0 s0_1 s0_2 s0_3 s0_4) (hB : Below w0.heap.size w0 w) (h : disk_Disk_Cut.f s0_0 s0_1 s0_2 s0_3 s0_4 a1 = some (r1, r2, r3, r4, r5)) :
    Calls Try.prog 18 #[.pointer (some ⟨g, 0, none⟩), .int .i64 a1] w fun e w' => e = .returned (.tuple #[]) ∧ IsU P w0 w' g r1 r2 r3 r4 r5 ∧ Below w0.heap.size w0 w' ∧ KeepBut w w' g none := by
  obtain ⟨⟨A, c, h1, h2, h3⟩, hP⟩ := id hI
  unfold disk_Disk_Cut.f at h
  split at h
  case isFalse => cases h
  case isTrue hG =>
  obtain ⟨g1, g2, g3, g4, g5, g6, g7⟩ := hG
  have hl := nb_length s0_0
  split at h
  · rename_i ho
    subst ho
    simp only [Option.some.injEq, Prod.mk.injEq] at h
    obtain ⟨rfl, rfl, rfl, rfl, rfl⟩ := h
    refine (Dk.cut_off g _ _ _ _ a1 w h1).mono ?_
    rintro e w' ⟨rfl, rfl⟩
    exact ⟨rfl, hI, hB, KeepBut.refl _ _ _⟩
  · rename_i ho
    obtain rfl : s0_4 = false := by simpa using ho
    simp only [Option.some.injEq, Prod.mk.injEq] at h
    obtain ⟨rfl, rfl, rfl, rfl, rfl⟩ := h
    have hn := Dk.R_none h2
    refine (Dk.cut_on g A _ c _ _ _ a1 w h1 (by omega) hn.1 hn.2).mono ?_
    rintro e w' ⟨rfl, m, hm, hle, hat, hb, hk⟩
    rw [hl] at hm
    rw [← hm]
    exact ⟨rfl, cut_stateU (s := s0_1) (f := s0_3) hP h2 h3 hle hat (Kd.R_ne h2 h1 (by decide)) hk, hB.trans (hb.mono h3), hk⟩
theorem disk_New.calls (a0 : Int) (r1 : ByteArray) (r2 : Int) (r3 : Int) (r4 : Int) (r5 : Bool) (w0 w : World) (hB : Below w0.heap.size w0 w) (h : disk_New.f a0 = some (r1, r2, r3, r4, r5)) :
    Calls Try.prog 10 #[.int .i64 a0] w fun e w' => ∃ g_ : Nat, e = .returned (.pointer (some ⟨g_, 0, none⟩)) ∧ IsU (PS []) w0 w' g_ r1 r2 r3 r4 r5 ∧ Below w0.heap.size w0 w' ∧ Below w.heap.size w w' := by
  refine (PDsk.disk_New.calls a0 r1 r2 r3 r4 r5 w0 w hB h).mono ?_
  rintro e w' ⟨g_, rfl, hi, hb⟩
  exact ⟨g_, rfl, IsU.of hi, hb⟩
/-- The reference's Append: its row is what came in, or its own. -/
theorem ropewayref08_Append.calls (k : Nat) (P0_0_ : Nat → Prop) (u9000_ : Value) (l0_0 : List Int) (a0_1 : Int) (a0_2 : Int) (a0_3 : Int) (a0_4 : Bool) (A1 : Option Addr) (c1 : Nat) (l1 : List Int) (r1 : List Int) (r2 : Int) (r3 : Int) (r4 : Int) (r5 : Bool) (r6 : Int) (w0 w : World) (hB : Below w0.heap.size w0 w) (ho0_0 : Kd.R (Kd.int .u8) 5 w w0.heap.size P0_0_ u9000_ l0_0) (hr1 : ∀ W_, Kept w W_ (fun k_ => P0_0_ k_) → Kd.C (Kd.int .u8) W_ A1 l1.length l1) (hc1 : l1.length ≤ c1) (h : ropewayref08_Append.f k l0_0 a0_1 a0_2 a0_3 a0_4 l1 = some (r1, r2, r3, r4, r5, r6)) :
    Calls Try.prog 20 #[.agg #[u9000_, .int .i64 a0_1, .int .i64 a0_2, .int .i64 a0_3, .bool a0_4], .slice A1 l1.length c1] w fun e w' => ∃ v0_ : Value, e = .returned (.tuple #[.agg #[v0_, .int .i64 r2, .int .i64 r3, .int .i64 r4, .bool r5], .int .i64 r6]) ∧ Kd.R (Kd.int .u8) 5 w' w0.heap.size (fun k_ => (P0_0_ k_ ∨ w.heap.size ≤ k_)) v0_ r1 ∧ Below w0.heap.size w0 w' ∧ Kept w w' (fun k_ => P0_0_ k_) := by
  obtain ⟨A0, c0, rfl⟩ := Kd.R_slice ho0_0
  obtain ⟨_, hc0, hC0⟩ := Kd.R_reads' ho0_0
  refine (ropewayref08_Append.callsR k (fun _ => True) A0 c0 l0_0 a0_1 a0_2 a0_3 a0_4 A1 c1 l1 r1 r2 r3 r4 r5 r6 w (Kd.V_mono (Kd.R_V ho0_0) (fun _ _ => trivial)) (hr1 w (Kept.refl w _)) hc1 h).mono ?_
  rintro e w' ⟨v0_, rfl, ho, hb⟩
  refine ⟨v0_, rfl, ?_, hB.trans (hb.mono hB.size), Kept.of_below hb _⟩
  rcases ho with ⟨rfl, rfl⟩ | ho
  · exact Kd.R_mono (Kd.R_below ho0_0 hb) (fun _ hk => .inl hk)
  · exact Kd.R_mono (Kd.R_lower (Kd.R_bound ho) hB.size) (fun _ hk => .inr hk.2.1)
end Go.Proofs.Ythoeoooccmjjaaa.PDru
