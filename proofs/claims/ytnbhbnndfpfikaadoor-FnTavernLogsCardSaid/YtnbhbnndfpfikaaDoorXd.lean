/- impl.decodeAll returns the records at the beginning of a text and the places behind them: by the law for a range over strings.Lines (Xc) and the printed contract of impl.decode. -/
import Derived.Test.YtnbhbnndfpfikaaDoorY3
import Derived.Test.YtnbhbnndfpfikaaDoorXc
namespace Go.Proofs.YtnbhbnndfpfikaaDoor.X
open Go.RowKit Go.Shelf Go.Proofs.YtnbhbnndfpfikaaDoorW.PrintWords Go.Proofs.YtnbhbnndfpfikaaDoorW.PrintLast Go.Proofs.YtnbhbnndfpfikaaDoorW.PrintMore
set_option linter.unusedVariables false
set_option linter.unusedSimpArgs false
attribute [local go_sem] Oper.semAt_some
def cells36 (out : List S36) : List Value := out.flatMap fun x => [.string x.f0, .string x.f1]
def ints64 (es : List Int) : List Value := es.map (Value.int .i64)
theorem cells36_snoc (out : List S36) (x : S36) : cells36 (out ++ [x]) = cells36 out ++ [.string x.f0, .string x.f1] := by simp [cells36]
theorem reps36 {w : World} {base : Nat} {ok : Nat → Prop} : ∀ out : List S36, Reps (k36.M w base ok) 2 out (cells36 out) := by
  intro out
  suffices h : ∀ n, ∀ out : List S36, out.length = n → Reps (k36.M w base ok) 2 out (cells36 out) from h _ _ rfl
  intro n
  induction n with
  | zero => intro out h; obtain rfl := List.length_eq_zero_iff.1 h; exact Reps.none _ _
  | succ n ih =>
    intro out h
    obtain ⟨l, x, rfl⟩ : ∃ l x, out = l ++ [x] := ⟨out.dropLast, out.getLast (by intro e; simp [e] at h), (List.dropLast_concat_getLast _).symm⟩
    rw [cells36_snoc]
    exact (ih l (by simpa using h)).snoc (k36_mkM _ _ _ x) rfl
theorem ints64_snoc (es : List Int) (x : Int) : ints64 (es ++ [x]) = ints64 es ++ [.int .i64 x] := by simp [ints64]
theorem repsI {w : World} {base : Nat} {ok : Nat → Prop} : ∀ es : List Int, Reps ((Kd.int .i64).M w base ok) 1 es (ints64 es) := by
  intro es
  suffices h : ∀ n, ∀ es : List Int, es.length = n → Reps ((Kd.int .i64).M w base ok) 1 es (ints64 es) from h _ _ rfl
  intro n
  induction n with
  | zero => intro out h; obtain rfl := List.length_eq_zero_iff.1 h; exact Reps.none _ _
  | succ n ih =>
    intro out h
    obtain ⟨l, x, rfl⟩ : ∃ l x, out = l ++ [x] := ⟨out.dropLast, out.getLast (by intro e; simp [e] at h), (List.dropLast_concat_getLast _).symm⟩
    rw [ints64_snoc]
    exact (ih l (by simpa using h)).snoc rfl rfl
def decL (k : Nat) : List ByteArray → Nat → List S36 → List Int → Option (List S36 × List Int)
  | [], e, out, es => some (out, es ++ [(e : Int)])
  | x :: xs, e, out, es => (impl_decode.f k (out.length : Int) x).bind fun b => if b.2.2 = true then decL k xs (e + x.size) (out ++ [⟨b.1, b.2.1⟩]) (es ++ [(e : Int)]) else some (out, es ++ [(e : Int)])
def impl_decodeAll.f (k : Nat) (a0 : ByteArray) : Option (List S36 × List Int) := if a0.size ≤ 1000000000 then decL k (lines a0) 0 [] [] else none
theorem info36_ : (Tryd.prog.info? 36).map (fun i => (i.zero, i.size, i.bytes)) = some (some (.agg #[.string ⟨#[]⟩, .string ⟨#[]⟩]), 2, 32) := by kernel_rfl
theorem info3_ : (Tryd.prog.info? 3).map (fun i => (i.zero, i.size, i.bytes)) = some (some (.int .i64 0), 1, 8) := by kernel_rfl
theorem lines_of (s : ByteArray) (w : World) : Calls Tryd.prog 95 #[.string s] w fun e w' => e = .returned (.func (.func 107) #[] #[.pointer (some ⟨w.heap.size, 0, none⟩)]) ∧ w' = w.alloc (.cells #[.string s] 9) := by
  refine (callsIn_wide (n := 3)).1 ?_
  refine callsIn_of_wp Tryd.func95 rfl trivial ?_ rfl
  simp only [Tryd.ntmps95, List.size_toArray, List.length_cons, List.length_nil, Nat.reduceAdd, Nat.reduceSub, Array.replicate_succ, Array.replicate_zero, List.push_toArray, List.append_toArray, List.nil_append, List.cons_append]
  gi_wp2
  go_ret
  exact ⟨rfl, rfl⟩
def Held (n₀ : Nat) (w : World) (out : List S36) (es : List Int) (W : World) : Prop :=
  ∃ v u, Boxed W n₀ 39 v ∧ W.ownsRow n₀ 36 2 v out.length (cells36 out) ∧ Boxed W (n₀ + 2) 78 u ∧ W.ownsRow n₀ 3 1 u es.length (ints64 es) ∧ Below n₀ w W
theorem Held.abides {n₀ B : Nat} {w : World} {out : List S36} {es : List Int} {W W' : World} {row : Option Nat} {n₁ : Nat} (h : Held n₀ w out es W) (hg : W.grownBy W' row) (hw : w.heap.size = n₀) (hB : B = n₀ + 3)
    (hbox : ∃ s, Boxed W B 9 (.string s)) (hn : n₀ ≤ n₁) (hr : ∀ r, row = some r → r = B ∨ (n₁ ≤ r ∧ ∃ o : Obj, W.heap[r]? = some o ∧ o.isCells = false)) : Held n₀ w out es W' := by
  obtain ⟨v, u, h1, h2, h3, h4, h5⟩ := h
  obtain ⟨s, hs⟩ := hbox
  have far : ∀ (b : Nat) (t : TypeId) (x : Value), Boxed W b t x → b ≠ B → some b ≠ row := by
    intro b t x hb hne e
    rcases hr b e.symm with h | ⟨_, o, ho, hc⟩
    · exact hne h
    · rw [show W.heap[b]? = _ from hb] at ho; cases ho; cases hc
  have farR : ∀ (x : Value) (e size k : Nat) (xs : List Value), W.ownsRow n₀ e size x k xs → 9 ≠ e → x.ownBlock = none ∨ x.ownBlock ≠ row := by
    intro x e size k xs hx hte
    rcases hx.2 with ⟨rfl, _⟩ | ⟨g, cap, cur, rfl, _, hgb, _⟩
    · exact .inl rfl
    · refine .inr fun e' => ?_
      rcases hr g (by simpa [Value.ownBlock] using e'.symm) with rfl | ⟨_, o, ho, hc⟩
      · exact hs.not_row hte hx (by simp [Value.ownBlock])
      · rw [hgb] at ho; cases ho; cases hc
  refine ⟨v, u, h1.kept hg (far _ _ _ h1 (by omega)), h2.kept hg (farR _ _ _ _ _ h2 (by decide)), h3.kept hg (far _ _ _ h3 (by omega)), h4.kept hg (farR _ _ _ _ _ h4 (by decide)), h5.grown hg (by have := h5.size; omega) ?_⟩
  intro k hk
  rcases hr k hk with h | ⟨h, _⟩ <;> omega
def InvL (k : Nat) (n₀ B : Nat) (w : World) (s0 : ByteArray) (r1 : List S36) (r2 : List Int) (pre : List ByteArray) (W : World) : Prop :=
  (∃ s, Boxed W B 9 (.string s)) ∧ ∃ (e : Nat) (out : List S36) (es : List Int), out.length = pre.length ∧ es.length = out.length ∧ e = tot pre ∧ (∀ rest, lines s0 = pre ++ rest → decL k rest e out es = some (r1, r2)) ∧ Held n₀ w out (es ++ [(e : Int)]) W
def StopL (n₀ B : Nat) (w : World) (r1 : List S36) (r2 : List Int) (c : Code) (pre : List ByteArray) (W : World) : Prop :=
  c = .exit 0 ∧ (∃ s, Boxed W B 9 (.string s)) ∧ Held n₀ w r1 r2 W
theorem box_kept {W W' : World} {B n₁ : Nat} {row : Option Nat} (h : ∃ s, Boxed W B 9 (.string s)) (hg : W.grownBy W' row) (hr : ∀ r, row = some r → (r = B ∧ ∃ s, Boxed W' B 9 (.string s)) ∨ (n₁ ≤ r ∧ ∃ o : Obj, W.heap[r]? = some o ∧ o.isCells = false)) : ∃ s, Boxed W' B 9 (.string s) := by
  obtain ⟨s, hs⟩ := h
  by_cases hb : row = some B
  · rcases hr B hb with ⟨_, h⟩ | ⟨_, o, ho, hc⟩
    · exact h
    · rw [show W.heap[B]? = _ from hs] at ho; cases ho; cases hc
  · exact ⟨s, hs.kept hg (fun e => hb e.symm)⟩
theorem invL_abides {k n₀ n₁ B : Nat} {w : World} {s0 : ByteArray} {r1 : List S36} {r2 : List Int} (hw : w.heap.size = n₀) (hB : B = n₀ + 3) (hn : n₀ ≤ n₁) : Abides B n₁ (InvL k n₀ B w s0 r1 r2) := by
  rintro pre W W' row ⟨hb, e, out, es, h1, h2, h3, h4, h5⟩ hg hr
  exact ⟨box_kept hb hg hr, e, out, es, h1, h2, h3, h4, h5.abides hg hw hB hb hn (fun r e => (hr r e).imp And.left id)⟩
theorem stopL_abides {n₀ n₁ B : Nat} {w : World} {r1 : List S36} {r2 : List Int} (c : Code) (hw : w.heap.size = n₀) (hB : B = n₀ + 3) (hn : n₀ ≤ n₁) : Abides B n₁ (StopL n₀ B w r1 r2 c) := by
  rintro pre W W' row ⟨hc, hb, h5⟩ hg hr
  exact ⟨hc, box_kept hb hg hr, h5.abides hg hw hB hb hn (fun r e => (hr r e).imp And.left id)⟩
theorem two_new {W : World} {b : Nat} (x y : Value) (t : TypeId) (h : b = W.heap.size) : ∀ (j : Nat) (u : Value), [x, y][j]? = some u → (W.alloc (.cells #[x, y] t)).cell? (Addr.add ⟨b, 0, none⟩ j) = some u := by
  subst h
  rintro (_ | _ | j) u hj
  · simp at hj; subst hj
    show (match (W.alloc (.cells #[x, y] t)).heap[W.heap.size]? with | some (.cells c _ _) => c[0 + 0]? | _ => none) = _
    rw [World.alloc_heap_new]; rfl
  · simp at hj; subst hj
    show (match (W.alloc (.cells #[x, y] t)).heap[W.heap.size]? with | some (.cells c _ _) => c[0 + 1]? | _ => none) = _
    rw [World.alloc_heap_new]; rfl
  · simp at hj
theorem wpOpsIn_inRound {F : Fence} {n : Nat} {P : Program} {ops : Array Oper} {Q : Exit → Act → World → Prop} {l : Nat} (hnd : ∀ o ∈ ops, ∀ c, o.op ≠ .defer c) (hro : F.round = none) :
    ∀ (is : List Nat) (a : Act) (w : World), wpOpsIn F n P ops Q is a w → wpOpsIn (F.inRound l) n P ops Q is a w := by
  intro is
  induction is with
  | nil => exact fun a w h => h
  | cons i is ih =>
    intro a w h
    simp only [wpOpsIn] at h ⊢
    cases ho : ops[i]? with
    | none => rw [ho] at h; exact ih a w h
    | some o =>
      rw [ho] at h
      dsimp only at h ⊢
      have hn := hnd o (Array.mem_of_getElem? ho)
      split
      · rename_i hw
        rw [if_pos hw] at h
        refine ⟨h.1, ?_⟩
        have h2 := h.2
        rw [Oper.semAt_eq _ _ _ hn] at h2 ⊢
        generalize (execOp a.eval o).run P w = r at h2 ⊢
        cases r with
        | ok x w' =>
          cases x
          case value v => exact ih _ _ h2
          case skip => exact ih _ _ h2
          case defer d => exact ih _ _ h2
          case enter f args =>
            refine ⟨h2.1, CallsIn.inRound l (h2.2.mono fun e w'' he => ?_)⟩
            cases e with
            | returned v => exact ih _ _ he
            | panicked c => exact he
            | outgrown => exact he
          case row row args => exact ⟨h2.1, RowsIn.mono h2.2 fun v w'' he => ih _ _ he⟩
          case round l' f tmps assign body =>
            refine ⟨h2.1, RoundIn.mono h2.2 fun e w'' he => ?_⟩
            cases e with
            | returned v => exact ih _ _ he
            | panicked c => exact he
            | outgrown => exact he
          all_goals exact h2.elim
        | halt x w' => cases x <;> exact h2
      · rename_i hw
        rw [if_neg hw] at h
        exact ⟨h.1, ih _ _ h.2⟩
theorem region_inRound {F : Fence} {n : Nat} {P : Program} {id : Nat} {ops : Array Oper} {Q : Exit → Act → World → Prop} {l : Nat} {a : Act} {w : World} (hnd : ∀ o ∈ ops, ∀ c, o.op ≠ .defer c) (hm : P.follows .mixedOrders = true) (hro : F.round = none)
    (h : wpAnyIn F n P .any ops Q ops.size (Array.replicate ops.size false) a w.drew) : (Code.region id ops true).wpIn (F.inRound l) n P Q a w :=
  wpIn_region_draw fun t => by
    simp only [Region.schedule, hm, Bool.true_or, if_true]
    exact wpOpsIn_inRound hnd hro _ _ _ (wpAnyIn_sound ops.size t _ a _ h)
theorem any_append_own {F : Fence} {n : Nat} {P : Program} {md : Region.Mode} {ops : Array Oper} {Q : Exit → Act → World → Prop} {fuel : Nat} {listed : Array Bool} {a : Act} {w : World} {i : Nat} {o : Oper}
    (hr : Region.ready md ops listed = [i]) (hi_ : ops[i]? = some o) (hw : Region.wanted o (yielded ops a.tmps) = true) (hro : F.round = none)
    (s x : Operand) (t : TypeId) (hop : o.op = Op.call { callee := Callee.builtin Builtin.append, args := #[s, x], argTypes := #[t, t] })
    (base : Nat) (e : TypeId) (i0 : TypeInfo) (z : Value) (size bytes : Nat) (h1 : P.underlying t = some (.slice e)) (h2 : P.info? e = some i0) (h3 : i0.zero = some z) (h4 : i0.size = size) (h5 : i0.bytes = bytes) (h6 : z.cells.size = size) (h7 : 0 < size)
    (v : Value) (k : Nat) (xs : List Value) (hs : a.eval s = v) (hown : w.ownsRow base e size v k xs) (ad : Addr) (m c : Nat) (news : List Value) (hx : a.eval x = .slice (some ad) m c) (hn : news.length = m * size)
    (hc : ∀ j u, news[j]? = some u → w.cell? (ad.add j) = some u) (h1c : ∀ u ∈ news, u.oneCell' = true) (b1 : k + m ≤ maxLen) (b2 : (k + m) * bytes ≤ 140737488355328) (b3 : base ≤ w.heap.size)
    (hK : ∀ v' w', w'.ownsRow base e size v' (k + m) (xs ++ news) → w.grownBy w' v.ownBlock → wpAnyIn F n P md ops Q fuel (listed.setIfInBounds i true) (a.put o.dst v') w') :
    wpAnyIn F n P md ops Q (fuel + 1) listed a w := by
  refine wpAnyIn_all hr (by simp) fun j hj => ?_
  obtain rfl := List.mem_singleton.1 hj
  obtain ⟨v', w', hrun, r1, r2, r3⟩ := run_append_own (P := P) w base t o.type e i0 z size bytes h1 h2 h3 h4 h5 h6 h7 v k xs hown ad m c news hn hc h1c b1 b2 b3
  unfold wpOpIn
  rw [hi_]
  dsimp only
  rw [if_pos hw]
  unfold Oper.wpIn
  refine ⟨?_, ?_⟩
  · simp [Oper.about, hop, resolve, Target.leads, Sem.run_pure]
  · rw [hro, Oper.semAt_none]
    simp [execOp, hop, resolve, invoke, builtin, hs, hx, hrun, Result.andThen]
    exact hK _ _ r1 r2
theorem rows_ne {W : World} {b b' e e' s s' n n' : Nat} {v u : Value} {xs ys : List Value} (h : W.ownsRow b e s v n xs) (h' : W.ownsRow b' e' s' u n' ys) (hne : e ≠ e') : u.ownBlock = none ∨ u.ownBlock ≠ v.ownBlock := by
  rcases h'.2 with ⟨rfl, _⟩ | ⟨g, cap, cur, rfl, _, hgb, _⟩
  · exact .inl rfl
  · refine .inr fun e_ => ?_
    obtain ⟨cells, hc⟩ := own_typed h g (e_.symm.trans (by simp [Value.ownBlock]))
    rw [hgb] at hc; simp at hc; exact hne hc.2.symm
theorem own_box {W : World} {b B t e s n : Nat} {v x : Value} {xs : List Value} (hx : Boxed W B t x) (h : W.ownsRow b e s v n xs) (he : some B = v.ownBlock) : t = e := by
  obtain ⟨cells, hc⟩ := own_typed h B he.symm
  rw [show W.heap[B]? = _ from hx] at hc; simp at hc; exact hc.2
theorem own_cell {W : World} {b e n g cap : Nat} {xs : List Value} (h : W.ownsRow b e 1 (.slice (some ⟨g, 0, none⟩) n cap) n xs) (j : Nat) (v : Value) (hj : xs[j]? = some v) : W.cell? ⟨g, j, none⟩ = some v := by
  rcases h.2 with ⟨h1, _⟩ | ⟨g', cap', cur, h1, _, hgb, _, _, _, ht⟩
  · cases h1
  · simp at h1
    obtain ⟨rfl, rfl⟩ := h1
    rw [← ht, List.getElem?_take] at hj
    split at hj
    · simp [World.cell?, hgb]; simpa using hj
    · cases hj
theorem keeps_below {W W' : World} (hb : Below W.heap.size W W') (n : Nat) : KeepsFrom n W W' := ⟨hb.size, fun k o _ hk ho => (hb.block k (Array.getElem?_eq_some_iff.1 hk).1).trans hk⟩
theorem _root_.Go.Boxed.below {W W' : World} {B : Nat} {t : TypeId} {v : Value} (h : Boxed W B t v) (hb : Below W.heap.size W W') : Boxed W' B t v := (hb.block B h.lt).trans h
set_option maxRecDepth 100000 in
set_option maxHeartbeats 1000000 in
theorem impl_decodeAll.calls (k : Nat) (a0 : ByteArray) (r1 : List S36) (r2 : List Int) (w : World) (hG : Glob w) (h : impl_decodeAll.f k a0 = some (r1, r2)) :
    Calls Tryd.prog 81 #[.string a0] w fun e w' => ∃ v0_ v1_ : Value, e = .returned (.tuple #[v0_, v1_]) ∧ Kd.R k36 36 w' w.heap.size (fun _ => True) v0_ r1 ∧ Kd.R (Kd.int .i64) 3 w' w.heap.size (fun _ => True) v1_ r2 ∧ Below w.heap.size w w' := by
  unfold impl_decodeAll.f at h
  by_cases hs : a0.size ≤ 1000000000
  case neg => rw [if_neg hs] at h; cases h
  rw [if_pos hs] at h
  have hu36 := Tryd.underlying36
  obtain ⟨i36, hi36, hz36, hz36s, hz36b⟩ := info_parts info36_
  obtain ⟨i3, hi3, hz3, hz3s, hz3b⟩ := info_parts info3_
  refine (callsIn_wide (n := 9)).1 ?_
  refine callsIn_of_wp_marks Tryd.func81 rfl trivial ?_ rfl
  simp only [Tryd.ntmps81, List.size_toArray, List.length_cons, List.length_nil, Nat.reduceAdd, Nat.reduceSub, Array.replicate_succ, Array.replicate_zero, List.push_toArray, List.append_toArray, List.nil_append, List.cons_append]
  have hH := Lib.hid h
  have hGG := Lib.hid hG
  clear h hG
  gi_wp2_with (refine ⟨trivial, ?_⟩; gi_at_call 95; refine (callsIn_wide.2 (lines_of a0 _)).mono ?_; rintro e w' ⟨rfl, rfl⟩)
  have b0 := Boxed.new w 39 (.slice none 0 0)
  have b1 := World.alloc_heap_new (w.alloc (.cells #[.slice none 0 0] 39)) (.cells #[.int .i64 0] 3)
  have b2 := Boxed.new ((w.alloc (.cells #[.slice none 0 0] 39)).alloc (.cells #[.int .i64 0] 3)) 78 (.slice (some ⟨w.heap.size + 1, 0, none⟩) 1 1)
  have b3 := Boxed.new (((w.alloc (.cells #[.slice none 0 0] 39)).alloc (.cells #[.int .i64 0] 3)).alloc (.cells #[.slice (some ⟨w.heap.size + 1, 0, none⟩) 1 1] 78)) 9 (.string a0)
  have hB0 : Below w.heap.size w ((((w.alloc (.cells #[.slice none 0 0] 39)).alloc (.cells #[.int .i64 0] 3)).alloc (.cells #[.slice (some ⟨w.heap.size + 1, 0, none⟩) 1 1] 78)).alloc (.cells #[.string a0] 9)) :=
    ((((qO _ w).alloc (Nat.le_refl _) _).alloc (by simp) _).alloc (by simp; omega) _).alloc (by simp; omega) _
  simp only [World.size_alloc] at b1 b2 b3
  have hown : ((w.alloc (.cells #[.slice none 0 0] 39)).alloc (.cells #[.int .i64 0] 3)).ownsRow w.heap.size 3 1 (.slice (some ⟨w.heap.size + 1, 0, none⟩) 1 1) 1 [.int .i64 0] :=
    ⟨rfl, .inr ⟨w.heap.size + 1, 1, #[.int .i64 0], rfl, by omega, b1, Nat.le_refl _, by decide, rfl, rfl⟩⟩
  have hsz : ((((w.alloc (.cells #[.slice none 0 0] 39)).alloc (.cells #[.int .i64 0] 3)).alloc (.cells #[.slice (some ⟨w.heap.size + 1, 0, none⟩) 1 1] 78)).alloc (.cells #[.string a0] 9)).heap.size = w.heap.size + 4 := by simp
  have hI0 : InvL k w.heap.size (w.heap.size + 3) w a0 r1 r2 [] ((((w.alloc (.cells #[.slice none 0 0] 39)).alloc (.cells #[.int .i64 0] 3)).alloc (.cells #[.slice (some ⟨w.heap.size + 1, 0, none⟩) 1 1] 78)).alloc (.cells #[.string a0] 9)) := by
    refine ⟨⟨_, b3⟩, 0, [], [], rfl, rfl, rfl, fun rest hr => ?_, _, _, ((b0.alloc _).alloc _).alloc _, World.ownsRow_nil _ _ _ _, b2.alloc _, (hown.alloc _).alloc _, hB0⟩
    rw [hH.out.symm.trans (by rw [hr])]; rfl
  clear b0 b1 b2 hown
  generalize hW : (((w.alloc (.cells #[.slice none 0 0] 39)).alloc (.cells #[.int .i64 0] 3)).alloc (.cells #[.slice (some ⟨w.heap.size + 1, 0, none⟩) 1 1] 78)).alloc (.cells #[.string a0] 9) = W0 at hI0 b3 hsz ⊢
  clear hW hB0
  refine range_lines (by omega) (Bs := w.heap.size + 3) (s0 := a0) (by omega) rfl b3
    (InvL k w.heap.size (w.heap.size + 3) w a0 r1 r2) (StopL w.heap.size (w.heap.size + 3) w r1 r2) (invL_abides rfl rfl (by omega)) (fun c => stopL_abides c rfl rfl (by omega)) hI0
    (fun x => { tmps := #[.string a0, undef, .slice none 0 0, .slice none 0 0, .pointer (some ⟨w.heap.size, 0, none⟩), .pointer (some ⟨w.heap.size + 1 + 1, 0, none⟩), .string x, undef, undef,
          .slice (some ⟨w.heap.size + 1, 0, none⟩) 1 1, .string a0, .func (.func 107) #[] #[.pointer (some ⟨w.heap.size + 1 + 1 + 1, 0, none⟩)], .string x,
          undef, undef, undef, undef, undef, undef, undef, undef, undef, undef, undef, undef, undef, undef, undef, undef, undef, undef, undef, undef, undef, undef, undef, undef, undef, undef, undef], defers := [] }) ?assign ?body ?done ?stop
  case assign =>
    intro l x W K hK
    gi_wp2
    exact hK
  case body =>
    rintro l pre x W ⟨hb, e, out, es, h1, h2, h3, h4, v, u, hv, hrow, hu, hrowu, hBl⟩ ⟨rest, hpx⟩
    have hl := tot_lines a0.size a0 (Nat.le_refl _)
    have h4' := h4 (x :: rest) (by rw [← hpx]; simp)
    rw [← hpx] at hl
    simp only [tot, List.map_append, List.sum_append, List.map_cons, List.map_nil, List.sum_cons, List.sum_nil, List.length_append, List.length_cons, List.length_nil] at hl
    unfold decL at h4'
    replace h4' := Option.bind_eq_some_iff.mp h4'
    obtain ⟨⟨c1, c2, c3⟩, hd, h4'⟩ := h4'
    have hsize := hBl.size
    have hc := hv.cell
    have hf := hv.frozen
    have hcu := hu.cell
    have hfu := hu.frozen
    obtain ⟨A, cap, rfl⟩ := own_slice hrow
    obtain ⟨gu, capu, rfl⟩ := ownsRow_succ (k := out.length) (by simpa [h2] using hrowu)
    have hGW : Glob W := hGG.out.below hBl
    have HD := Lib.hid (impl_decode.calls k (out.length : Int) x c1 c2 c3 W hGW hd)
    have Hrow := Lib.hid hrow
    have Hrowu := Lib.hid hrowu
    have Hv := Lib.hid hv
    have Hu := Lib.hid hu
    have HBl := Lib.hid hBl
    have Hb := Lib.hid hb
    have H4 := Lib.hid h4
    have H4' := Lib.hid h4'
    have Hpx := Lib.hid hpx
    clear hrow hrowu hv hu hBl hb h4 h4' hpx hd hGW
    have Hl := Lib.hid (And.intro h1 (And.intro h2 (And.intro h3 hl)))
    clear h1 h2 h3 hl
    dsimp only
    cases c3 with
    | false =>
      gi_wp2_with (refine ⟨trivial, ?_⟩; gi_at_call 96; refine (CallsIn.inRound l (callsIn_wide.2 HD.out)).mono ?_; rintro e' w1 ⟨rfl, hbw⟩; have hc1 : w1.cell? ⟨w.heap.size, 0, none⟩ = _ := (hbw.cell (p := ⟨w.heap.size, 0, none⟩) Hv.out.lt).trans hc)
      have hb1 : Below W.heap.size W (w1.alloc (.cells #[.string c1, .string c2] 36)) := hbw.alloc hbw.size _
      have h4' := H4'.out
      rw [if_neg (by decide)] at h4'
      obtain ⟨rfl, rfl⟩ : out = r1 ∧ es ++ [(e : Int)] = r2 := by simpa using h4'
      obtain ⟨s, hb⟩ := Hb.out
      exact ⟨keeps_below hb1 _, rfl, ⟨s, hb.below hb1⟩, _, _, Hv.out.below hb1, pw_own_below Hrow.out hb1, Hu.out.below hb1, pw_own_below Hrowu.out hb1, HBl.out.trans (hb1.mono hsize)⟩
    | true =>
      have hlen : out.length + 1 ≤ 1000000000 := by have := Hl.out; omega
      have hlen2 : es.length + 1 ≤ 1000000000 := by have := Hl.out; omega
      gi_wp2_with (first
        | (refine ⟨trivial, ?_⟩; gi_at_call 96; refine (CallsIn.inRound l (callsIn_wide.2 HD.out)).mono ?_; rintro e' w1 ⟨rfl, hbw⟩; have hsz1 := hbw.size; have Hv1 := Lib.hid ((Hv.out.below hbw).alloc (.cells #[.string c1, .string c2] 36)); have hc1 : World.cell? _ ⟨w.heap.size, 0, none⟩ = _ := Hv1.out.cell; have hf1 : World.frozen? _ ⟨w.heap.size, 0, none⟩ = _ := Hv1.out.frozen; clear hc hf hcu hfu)
        | (gi_at_builtin; refine wpListIn_append_own _ rfl _ _ 39 rfl w.heap.size 36 i36 (.agg #[.string ⟨#[]⟩, .string ⟨#[]⟩]) 2 32 Tryd.underlying39 hi36 hz36 hz36s hz36b rfl (by decide) _ _ _ rfl (((pw_own_below Hrow.out hbw).alloc _).alloc _) ⟨w1.heap.size + 1, 0, none⟩ 1 1 [.string c1, .string c2] rfl rfl ?cells ?one ?len ?bytes ?base ?_; (case cells => exact two_new _ _ _ (by simp)); (case one => simp [Value.oneCell']); (case len => simp only [maxLen]; omega); (case bytes => omega); (case base => simp; omega); intro v' w2 hown' hgrow _; obtain ⟨g', cap', rfl⟩ := ownsRow_succ hown'; have HH := Lib.hid (Hv1.out.appended (by decide) ((pw_own_below Hrow.out hbw).alloc _) (by simp; omega) (Nat.le_refl _) hown' hgrow); have hc2 := HH.out.1.cell; have hf2 := HH.out.1.frozen))
      have hrowu1 := (((pw_own_below Hrowu.out hbw).alloc (.cells #[.string c1, .string c2] 36)).alloc (.cells #[.string c1, .string c2] 36))
      have hrow1 := (((pw_own_below Hrow.out hbw).alloc (.cells #[.string c1, .string c2] 36)).alloc (.cells #[.string c1, .string c2] 36))
      have hu1 := ((Hu.out.below hbw).alloc (.cells #[.string c1, .string c2] 36)).alloc (.cells #[.string c1, .string c2] 36)
      have hb1' := ((Hb.out.choose_spec.below hbw).alloc (.cells #[.string c1, .string c2] 36)).alloc (.cells #[.string c1, .string c2] 36)
      have hrowu2 := hrowu1.kept hgrow (rows_ne hrow1 hrowu1 (by decide))
      have hu2 := hu1.kept hgrow (hu1.not_row (by decide) hrow1)
      have hb2 := hb1'.kept hgrow (hb1'.not_row (by decide) hrow1)
      obtain ⟨-, hv3, hr3, hk3, hB3⟩ := HH.out
      have hgs := grownBy_setCell' w2 w.heap.size (.slice (some ⟨g', 0, none⟩) (out.length + 1) cap')
      have hrowu3 := hrowu2.kept hgs (.inr (by intro e_; exact (by decide : (39 : Nat) ≠ 3) (own_box HH.out.1 hrowu2 e_.symm)))
      have hu3 := hu2.kept hgs (by intro e_; have := Option.some.inj e_; omega)
      have hb3 := hb2.kept hgs (by intro e_; have := Option.some.inj e_; omega)
      have hBW : Below w.heap.size w (w2.setCell ⟨w.heap.size, 0, none⟩ (.slice (some ⟨g', 0, none⟩) (out.length + 1) cap')) := (HBl.out.trans (hbw.mono hsize)).trans ((((qO _ _).alloc (by omega) _).trans hB3))
      have hKW : KeepsFrom W0.heap.size W (w2.setCell ⟨w.heap.size, 0, none⟩ (.slice (some ⟨g', 0, none⟩) (out.length + 1) cap')) := (keeps_below (hbw.alloc hbw.size _) _).trans (hk3.from _)
      clear hrowu1 hrow1 hu1 hb1' hrowu2 hu2 hb2 hk3 hB3 hgs hc2 hf2 HH hgrow hown'
      generalize hW3 : w2.setCell ⟨w.heap.size, 0, none⟩ (.slice (some ⟨g', 0, none⟩) (out.length + 1) cap') = W3 at *
      clear hW3 Hrow Hrowu Hv Hu HBl HD Hv1 hc1 hf1 hbw hsz1
      have he : (es ++ [(e : Int)]).length = out.length + 1 := by have := Hl.out; simp; omega
      rw [he] at hrowu3
      have hc3 := hv3.cell
      have hf3 := hv3.frozen
      have hcu3 := hu3.cell
      have hfu3 := hu3.frozen
      have hcl : W3.cell? ⟨gu, out.length, none⟩ = some (.int .i64 e) := own_cell hrowu3 _ _ (by have := Hl.out.2.1; simp [ints64, this])
      have hBs := hBW.size
      have Hrow3 := Lib.hid hr3
      have Hrowu3 := Lib.hid hrowu3
      have Hv3 := Lib.hid hv3
      have Hu3 := Lib.hid hu3
      have Hb3 := Lib.hid hb3
      clear hr3 hrowu3 hv3 hu3 hb3
      have hmx : Tryd.prog.follows .mixedOrders = true := by kernel_rfl
      have q1 : IntKind.i64.wrap (((out.length + 1 : Nat) : Int) - 1) = (out.length : Int) := by rw [IntWalk.i64_in _ (by omega)]; omega
      have q3 : IntKind.i64.wrap (out.length : Int) = (out.length : Int) := IntWalk.i64_in _ (by omega)
      have q4 : ((out.length : Int) < (out.length : Int) + 1) = True := eq_true (by omega)
      have q2 : IntKind.i64.wrap ((e : Int) + (x.size : Int)) = ((e + x.size : Nat) : Int) := by have := Hl.out; rw [IntWalk.i64_in _ (by simp only [tot] at *; omega)]; omega
      have hfin : ∀ (g4 cap4 : Nat) (w4 : World), w4.ownsRow w.heap.size 3 1 (.slice (some ⟨g4, 0, none⟩) (out.length + 1 + 1) cap4) (out.length + 1 + 1) (ints64 (es ++ [(e : Int)]) ++ [.int .i64 ((e : Int) + (x.size : Int))]) →
          ((W3.alloc (.cells #[.int .i64 ((e : Int) + (x.size : Int))] 3)).drew).grownBy w4 (Value.slice (some ⟨gu, 0, none⟩) (out.length + 1) capu).ownBlock →
          w4.cell? ⟨w.heap.size + 2, 0, none⟩ = some (.slice (some ⟨gu, 0, none⟩) (out.length + 1) capu) ∧ w4.frozen? ⟨w.heap.size + 2, 0, none⟩ = false ∧
          ∀ a' : Act, linesPost (w.heap.size + 3) W0.heap.size (InvL k w.heap.size (w.heap.size + 3) w a0 r1 r2) (StopL w.heap.size (w.heap.size + 3) w r1 r2) (pre ++ [x]) W .normal a' (w4.setCell ⟨w.heap.size + 2, 0, none⟩ (.slice (some ⟨g4, 0, none⟩) (out.length + 1 + 1) cap4)) := by
        intro g4 cap4 w4 hown4 hgrow4
        have hrowu4 := Hrowu3.out.alloc (.cells #[.int .i64 ((e : Int) + (x.size : Int))] 3)
        have hg4 : (W3.alloc (.cells #[.int .i64 ((e : Int) + (x.size : Int))] 3)).grownBy w4 (Value.slice (some ⟨gu, 0, none⟩) (out.length + 1) capu).ownBlock := ⟨hgrow4.os, hgrow4.tape, hgrow4.output, hgrow4.size, hgrow4.block⟩
        have hu4 := (Hu3.out.alloc (.cells #[.int .i64 ((e : Int) + (x.size : Int))] 3)).kept hg4 ((Hu3.out.alloc _).not_row (by decide) hrowu4)
        refine ⟨hu4.cell, hu4.frozen, fun a' => ?_⟩
        obtain ⟨-, hu5, hru5, hk5, hB5⟩ := Hu3.out.appended (by decide) Hrowu3.out hBs (by omega) hown4 hg4
        have hgs := grownBy_setCell' w4 (w.heap.size + 2) (.slice (some ⟨g4, 0, none⟩) (out.length + 1 + 1) cap4)
        have hv4 := (Hv3.out.alloc (.cells #[.int .i64 ((e : Int) + (x.size : Int))] 3)).kept hg4 ((Hv3.out.alloc _).not_row (by decide) hrowu4)
        have hv5 := hv4.kept hgs (by intro e_; have := Option.some.inj e_; omega)
        have hb4 := (Hb3.out.alloc (.cells #[.int .i64 ((e : Int) + (x.size : Int))] 3)).kept hg4 ((Hb3.out.alloc _).not_row (by decide) hrowu4)
        have hb5 := hb4.kept hgs (by intro e_; have := Option.some.inj e_; omega)
        have hr4 := (Hrow3.out.alloc (.cells #[.int .i64 ((e : Int) + (x.size : Int))] 3)).kept hg4 (rows_ne hrowu4 (Hrow3.out.alloc _) (by decide))
        have hr5 := hr4.kept hgs (.inr (by intro e_; exact (by decide : (78 : Nat) ≠ 36) (own_box hu4 hr4 e_.symm)))
        have hl := Hl.out
        have h4' := H4'.out
        rw [if_pos (by simp)] at h4'
        refine ⟨hKW.trans (hk5.from _), ?_, ⟨_, hb5⟩, e + x.size, out ++ [⟨c1, c2⟩], es ++ [(e : Int)], by simp; omega, by simp; omega, by simp [tot]; simp only [tot] at hl; omega, ?_, _, _, hv5, by simpa [cells36_snoc] using hr5, hu5, ?_, hBW.trans hB5⟩
        · exact (show _ = _ from hb5).trans (Hb.out.choose_spec).symm
        · intro rest' hrest
          have : rest' = rest := by
            have := hrest.symm.trans Hpx.out.symm
            simpa using this
          rw [this]; exact h4'
        · have e1 : (es ++ [(e : Int)] ++ [((e + x.size : Nat) : Int)]).length = out.length + 1 + 1 := by simp; omega
          rw [e1, ints64_snoc]
          simpa using hru5
      have hcu5 : (W3.alloc (.cells #[.int .i64 ((e : Int) + (x.size : Int))] 3)).cell? ⟨w.heap.size + 2, 0, none⟩ = some (.slice (some ⟨gu, 0, none⟩) (out.length + 1) capu) := (Hu3.out.alloc _).cell
      refine region_inRound (by simp) hmx rfl ?_
      refine wpAnyIn_take (i := 7) (v := ?_) rfl rfl (by kernel_rfl) (by kernel_rfl) (by kernel_rfl) (fun _ _ _ h => h) ⟨Or.inl ⟨by rfl, ?hy⟩, fun _ => rfl⟩ ?_; (case hy => (intro w_; first | (go_simp; done) | (go_simp; with_reducible rfl)))
      refine wpAnyIn_take (i := 8) (v := ?_) rfl rfl (by kernel_rfl) (by kernel_rfl) (by kernel_rfl) (fun _ _ _ h => h) ⟨Or.inl ⟨by rfl, ?hy⟩, fun _ => rfl⟩ ?_; (case hy => (intro w_; first | (go_simp; done) | (go_simp; with_reducible rfl)))
      refine wpAnyIn_ready (rs := [0, 1, 2]) (by kernel_rfl) (by simp) ?_
      refine AllReadyIn.cons rfl (fun K hK => ?_) ?_
      · go_simp
        refine hK _ _ ?_
        clear hK K
        refine wpAnyIn_ready (rs := [1, 2]) (by kernel_rfl) (by simp) ?_
        refine AllReadyIn.cons rfl (fun K hK => ?_) ?_
        · go_simp
          refine hK _ _ ?_
          clear hK K
          refine wpAnyIn_ready (rs := [2]) (by kernel_rfl) (by simp) ?_
          refine AllReadyIn.cons rfl (fun K hK => ?_) ?_
          · go_simp
            refine hK _ _ ?_
            clear hK K
            refine wpAnyIn_take (i := 3) (v := ?_) rfl rfl (by kernel_rfl) (by kernel_rfl) (by kernel_rfl) (fun _ _ _ h => h) ⟨Or.inl ⟨by rfl, ?hy⟩, fun _ => rfl⟩ ?_; (case hy => (intro w_; first | (go_simp; done) | (go_simp; with_reducible rfl)))
            refine wpAnyIn_take (i := 4) (v := ?_) rfl rfl (by kernel_rfl) (by kernel_rfl) (by kernel_rfl) (fun _ _ _ h => h) ⟨Or.inl ⟨by rfl, ?hy⟩, fun _ => rfl⟩ ?_; (case hy => (intro w_; first | (go_simp; done) | (go_simp; with_reducible rfl)))
            refine wpAnyIn_take (i := 5) (v := ?_) rfl rfl (by kernel_rfl) (by kernel_rfl) (by kernel_rfl) (fun _ _ _ h => h) ⟨Or.inl ⟨by rfl, ?hy⟩, fun _ => rfl⟩ ?_; (case hy => (intro w_; first | (go_simp; done) | (go_simp; with_reducible rfl)))
            refine wpAnyIn_ready (rs := [6]) (by kernel_rfl) (by simp) ?_
            refine AllReadyIn.cons rfl (fun K hK => ?_) ?_
            · go_simp
              refine hK _ _ ?_
              clear hK K
              refine wpAnyIn_take (i := 9) (v := ?_) rfl rfl (by kernel_rfl) (by kernel_rfl) (by kernel_rfl) (fun _ _ _ h => h) ⟨Or.inl ⟨by rfl, ?hy⟩, fun _ => rfl⟩ ?_; (case hy => (intro w_; first | (go_simp; done) | (go_simp; with_reducible rfl)))
              refine wpAnyIn_ready (rs := [10]) (by kernel_rfl) (by simp) ?_
              refine AllReadyIn.cons rfl (fun K hK => ?_) ?_
              · go_simp
                refine hK _ _ ?_
                clear hK K
                refine any_append_own (i := 11) (by kernel_rfl) rfl (by kernel_rfl) rfl _ _ 78 rfl w.heap.size 3 i3 (.int .i64 0) 1 8 Tryd.underlying78 hi3 hz3 hz3s hz3b rfl (by decide) _ _ _ rfl (Hrowu3.out.alloc _) ⟨W3.heap.size, 0, none⟩ 1 1 [.int .i64 ((e : Int) + (x.size : Int))] rfl rfl (cell_one_new _ _ _) (by simp [Value.oneCell']) (by simp only [maxLen]; omega) (by omega) (by show _ ≤ (W3.alloc _).heap.size; simp; omega) ?_
                intro v' w4 hown4 hgrow4
                obtain ⟨g4, cap4, rfl⟩ := ownsRow_succ hown4
                obtain ⟨hc4, hf4, hfin4⟩ := hfin _ _ _ hown4 hgrow4
                refine wpAnyIn_ready (rs := [12]) (by kernel_rfl) (by simp) ?_
                refine AllReadyIn.cons rfl (fun K hK => ?_) AllReadyIn.nil
                go_simp
                refine hK _ _ ?_
                clear hK K
                refine wpAnyIn_done (by kernel_rfl) ?_ _
                exact hfin4 ⟨#[], []⟩
              exact AllReadyIn.nil
            exact AllReadyIn.nil
          exact AllReadyIn.nil
        refine AllReadyIn.cons rfl (fun K hK => ?_) ?_
        · go_simp
          refine hK _ _ ?_
          clear hK K
          refine wpAnyIn_take (i := 3) (v := ?_) rfl rfl (by kernel_rfl) (by kernel_rfl) (by kernel_rfl) (fun _ _ _ h => h) ⟨Or.inl ⟨by rfl, ?hy⟩, fun _ => rfl⟩ ?_; (case hy => (intro w_; first | (go_simp; done) | (go_simp; with_reducible rfl)))
          refine wpAnyIn_take (i := 4) (v := ?_) rfl rfl (by kernel_rfl) (by kernel_rfl) (by kernel_rfl) (fun _ _ _ h => h) ⟨Or.inl ⟨by rfl, ?hy⟩, fun _ => rfl⟩ ?_; (case hy => (intro w_; first | (go_simp; done) | (go_simp; with_reducible rfl)))
          refine wpAnyIn_ready (rs := [1]) (by kernel_rfl) (by simp) ?_
          refine AllReadyIn.cons rfl (fun K hK => ?_) ?_
          · go_simp
            refine hK _ _ ?_
            clear hK K
            refine wpAnyIn_take (i := 5) (v := ?_) rfl rfl (by kernel_rfl) (by kernel_rfl) (by kernel_rfl) (fun _ _ _ h => h) ⟨Or.inl ⟨by rfl, ?hy⟩, fun _ => rfl⟩ ?_; (case hy => (intro w_; first | (go_simp; done) | (go_simp; with_reducible rfl)))
            refine wpAnyIn_ready (rs := [6]) (by kernel_rfl) (by simp) ?_
            refine AllReadyIn.cons rfl (fun K hK => ?_) ?_
            · go_simp
              refine hK _ _ ?_
              clear hK K
              refine wpAnyIn_take (i := 9) (v := ?_) rfl rfl (by kernel_rfl) (by kernel_rfl) (by kernel_rfl) (fun _ _ _ h => h) ⟨Or.inl ⟨by rfl, ?hy⟩, fun _ => rfl⟩ ?_; (case hy => (intro w_; first | (go_simp; done) | (go_simp; with_reducible rfl)))
              refine wpAnyIn_ready (rs := [10]) (by kernel_rfl) (by simp) ?_
              refine AllReadyIn.cons rfl (fun K hK => ?_) ?_
              · go_simp
                refine hK _ _ ?_
                clear hK K
                refine any_append_own (i := 11) (by kernel_rfl) rfl (by kernel_rfl) rfl _ _ 78 rfl w.heap.size 3 i3 (.int .i64 0) 1 8 Tryd.underlying78 hi3 hz3 hz3s hz3b rfl (by decide) _ _ _ rfl (Hrowu3.out.alloc _) ⟨W3.heap.size, 0, none⟩ 1 1 [.int .i64 ((e : Int) + (x.size : Int))] rfl rfl (cell_one_new _ _ _) (by simp [Value.oneCell']) (by simp only [maxLen]; omega) (by omega) (by show _ ≤ (W3.alloc _).heap.size; simp; omega) ?_
                intro v' w4 hown4 hgrow4
                obtain ⟨g4, cap4, rfl⟩ := ownsRow_succ hown4
                obtain ⟨hc4, hf4, hfin4⟩ := hfin _ _ _ hown4 hgrow4
                refine wpAnyIn_ready (rs := [12]) (by kernel_rfl) (by simp) ?_
                refine AllReadyIn.cons rfl (fun K hK => ?_) AllReadyIn.nil
                go_simp
                refine hK _ _ ?_
                clear hK K
                refine wpAnyIn_done (by kernel_rfl) ?_ _
                exact hfin4 ⟨#[], []⟩
              exact AllReadyIn.nil
            exact AllReadyIn.nil
          exact AllReadyIn.nil
        exact AllReadyIn.nil
      refine AllReadyIn.cons rfl (fun K hK => ?_) ?_
      · go_simp
        refine hK _ _ ?_
        clear hK K
        refine wpAnyIn_ready (rs := [0, 2]) (by kernel_rfl) (by simp) ?_
        refine AllReadyIn.cons rfl (fun K hK => ?_) ?_
        · go_simp
          refine hK _ _ ?_
          clear hK K
          refine wpAnyIn_ready (rs := [2]) (by kernel_rfl) (by simp) ?_
          refine AllReadyIn.cons rfl (fun K hK => ?_) ?_
          · go_simp
            refine hK _ _ ?_
            clear hK K
            refine wpAnyIn_take (i := 3) (v := ?_) rfl rfl (by kernel_rfl) (by kernel_rfl) (by kernel_rfl) (fun _ _ _ h => h) ⟨Or.inl ⟨by rfl, ?hy⟩, fun _ => rfl⟩ ?_; (case hy => (intro w_; first | (go_simp; done) | (go_simp; with_reducible rfl)))
            refine wpAnyIn_take (i := 4) (v := ?_) rfl rfl (by kernel_rfl) (by kernel_rfl) (by kernel_rfl) (fun _ _ _ h => h) ⟨Or.inl ⟨by rfl, ?hy⟩, fun _ => rfl⟩ ?_; (case hy => (intro w_; first | (go_simp; done) | (go_simp; with_reducible rfl)))
            refine wpAnyIn_take (i := 5) (v := ?_) rfl rfl (by kernel_rfl) (by kernel_rfl) (by kernel_rfl) (fun _ _ _ h => h) ⟨Or.inl ⟨by rfl, ?hy⟩, fun _ => rfl⟩ ?_; (case hy => (intro w_; first | (go_simp; done) | (go_simp; with_reducible rfl)))
            refine wpAnyIn_ready (rs := [6]) (by kernel_rfl) (by simp) ?_
            refine AllReadyIn.cons rfl (fun K hK => ?_) ?_
            · go_simp
              refine hK _ _ ?_
              clear hK K
              refine wpAnyIn_take (i := 9) (v := ?_) rfl rfl (by kernel_rfl) (by kernel_rfl) (by kernel_rfl) (fun _ _ _ h => h) ⟨Or.inl ⟨by rfl, ?hy⟩, fun _ => rfl⟩ ?_; (case hy => (intro w_; first | (go_simp; done) | (go_simp; with_reducible rfl)))
              refine wpAnyIn_ready (rs := [10]) (by kernel_rfl) (by simp) ?_
              refine AllReadyIn.cons rfl (fun K hK => ?_) ?_
              · go_simp
                refine hK _ _ ?_
                clear hK K
                refine any_append_own (i := 11) (by kernel_rfl) rfl (by kernel_rfl) rfl _ _ 78 rfl w.heap.size 3 i3 (.int .i64 0) 1 8 Tryd.underlying78 hi3 hz3 hz3s hz3b rfl (by decide) _ _ _ rfl (Hrowu3.out.alloc _) ⟨W3.heap.size, 0, none⟩ 1 1 [.int .i64 ((e : Int) + (x.size : Int))] rfl rfl (cell_one_new _ _ _) (by simp [Value.oneCell']) (by simp only [maxLen]; omega) (by omega) (by show _ ≤ (W3.alloc _).heap.size; simp; omega) ?_
                intro v' w4 hown4 hgrow4
                obtain ⟨g4, cap4, rfl⟩ := ownsRow_succ hown4
                obtain ⟨hc4, hf4, hfin4⟩ := hfin _ _ _ hown4 hgrow4
                refine wpAnyIn_ready (rs := [12]) (by kernel_rfl) (by simp) ?_
                refine AllReadyIn.cons rfl (fun K hK => ?_) AllReadyIn.nil
                go_simp
                refine hK _ _ ?_
                clear hK K
                refine wpAnyIn_done (by kernel_rfl) ?_ _
                exact hfin4 ⟨#[], []⟩
              exact AllReadyIn.nil
            exact AllReadyIn.nil
          exact AllReadyIn.nil
        refine AllReadyIn.cons rfl (fun K hK => ?_) ?_
        · go_simp
          refine hK _ _ ?_
          clear hK K
          refine wpAnyIn_take (i := 3) (v := ?_) rfl rfl (by kernel_rfl) (by kernel_rfl) (by kernel_rfl) (fun _ _ _ h => h) ⟨Or.inl ⟨by rfl, ?hy⟩, fun _ => rfl⟩ ?_; (case hy => (intro w_; first | (go_simp; done) | (go_simp; with_reducible rfl)))
          refine wpAnyIn_take (i := 4) (v := ?_) rfl rfl (by kernel_rfl) (by kernel_rfl) (by kernel_rfl) (fun _ _ _ h => h) ⟨Or.inl ⟨by rfl, ?hy⟩, fun _ => rfl⟩ ?_; (case hy => (intro w_; first | (go_simp; done) | (go_simp; with_reducible rfl)))
          refine wpAnyIn_take (i := 5) (v := ?_) rfl rfl (by kernel_rfl) (by kernel_rfl) (by kernel_rfl) (fun _ _ _ h => h) ⟨Or.inl ⟨by rfl, ?hy⟩, fun _ => rfl⟩ ?_; (case hy => (intro w_; first | (go_simp; done) | (go_simp; with_reducible rfl)))
          refine wpAnyIn_ready (rs := [0, 6]) (by kernel_rfl) (by simp) ?_
          refine AllReadyIn.cons rfl (fun K hK => ?_) ?_
          · go_simp
            refine hK _ _ ?_
            clear hK K
            refine wpAnyIn_ready (rs := [6]) (by kernel_rfl) (by simp) ?_
            refine AllReadyIn.cons rfl (fun K hK => ?_) ?_
            · go_simp
              refine hK _ _ ?_
              clear hK K
              refine wpAnyIn_take (i := 9) (v := ?_) rfl rfl (by kernel_rfl) (by kernel_rfl) (by kernel_rfl) (fun _ _ _ h => h) ⟨Or.inl ⟨by rfl, ?hy⟩, fun _ => rfl⟩ ?_; (case hy => (intro w_; first | (go_simp; done) | (go_simp; with_reducible rfl)))
              refine wpAnyIn_ready (rs := [10]) (by kernel_rfl) (by simp) ?_
              refine AllReadyIn.cons rfl (fun K hK => ?_) ?_
              · go_simp
                refine hK _ _ ?_
                clear hK K
                refine any_append_own (i := 11) (by kernel_rfl) rfl (by kernel_rfl) rfl _ _ 78 rfl w.heap.size 3 i3 (.int .i64 0) 1 8 Tryd.underlying78 hi3 hz3 hz3s hz3b rfl (by decide) _ _ _ rfl (Hrowu3.out.alloc _) ⟨W3.heap.size, 0, none⟩ 1 1 [.int .i64 ((e : Int) + (x.size : Int))] rfl rfl (cell_one_new _ _ _) (by simp [Value.oneCell']) (by simp only [maxLen]; omega) (by omega) (by show _ ≤ (W3.alloc _).heap.size; simp; omega) ?_
                intro v' w4 hown4 hgrow4
                obtain ⟨g4, cap4, rfl⟩ := ownsRow_succ hown4
                obtain ⟨hc4, hf4, hfin4⟩ := hfin _ _ _ hown4 hgrow4
                refine wpAnyIn_ready (rs := [12]) (by kernel_rfl) (by simp) ?_
                refine AllReadyIn.cons rfl (fun K hK => ?_) AllReadyIn.nil
                go_simp
                refine hK _ _ ?_
                clear hK K
                refine wpAnyIn_done (by kernel_rfl) ?_ _
                exact hfin4 ⟨#[], []⟩
              exact AllReadyIn.nil
            exact AllReadyIn.nil
          refine AllReadyIn.cons rfl (fun K hK => ?_) ?_
          · go_simp
            refine hK _ _ ?_
            clear hK K
            refine wpAnyIn_take (i := 9) (v := ?_) rfl rfl (by kernel_rfl) (by kernel_rfl) (by kernel_rfl) (fun _ _ _ h => h) ⟨Or.inl ⟨by rfl, ?hy⟩, fun _ => rfl⟩ ?_; (case hy => (intro w_; first | (go_simp; done) | (go_simp; with_reducible rfl)))
            refine wpAnyIn_ready (rs := [0, 10]) (by kernel_rfl) (by simp) ?_
            refine AllReadyIn.cons rfl (fun K hK => ?_) ?_
            · go_simp
              refine hK _ _ ?_
              clear hK K
              refine wpAnyIn_ready (rs := [10]) (by kernel_rfl) (by simp) ?_
              refine AllReadyIn.cons rfl (fun K hK => ?_) ?_
              · go_simp
                refine hK _ _ ?_
                clear hK K
                refine any_append_own (i := 11) (by kernel_rfl) rfl (by kernel_rfl) rfl _ _ 78 rfl w.heap.size 3 i3 (.int .i64 0) 1 8 Tryd.underlying78 hi3 hz3 hz3s hz3b rfl (by decide) _ _ _ rfl (Hrowu3.out.alloc _) ⟨W3.heap.size, 0, none⟩ 1 1 [.int .i64 ((e : Int) + (x.size : Int))] rfl rfl (cell_one_new _ _ _) (by simp [Value.oneCell']) (by simp only [maxLen]; omega) (by omega) (by show _ ≤ (W3.alloc _).heap.size; simp; omega) ?_
                intro v' w4 hown4 hgrow4
                obtain ⟨g4, cap4, rfl⟩ := ownsRow_succ hown4
                obtain ⟨hc4, hf4, hfin4⟩ := hfin _ _ _ hown4 hgrow4
                refine wpAnyIn_ready (rs := [12]) (by kernel_rfl) (by simp) ?_
                refine AllReadyIn.cons rfl (fun K hK => ?_) AllReadyIn.nil
                go_simp
                refine hK _ _ ?_
                clear hK K
                refine wpAnyIn_done (by kernel_rfl) ?_ _
                exact hfin4 ⟨#[], []⟩
              exact AllReadyIn.nil
            refine AllReadyIn.cons rfl (fun K hK => ?_) ?_
            · go_simp
              refine hK _ _ ?_
              clear hK K
              refine wpAnyIn_ready (rs := [0]) (by kernel_rfl) (by simp) ?_
              refine AllReadyIn.cons rfl (fun K hK => ?_) ?_
              · go_simp
                refine hK _ _ ?_
                clear hK K
                refine any_append_own (i := 11) (by kernel_rfl) rfl (by kernel_rfl) rfl _ _ 78 rfl w.heap.size 3 i3 (.int .i64 0) 1 8 Tryd.underlying78 hi3 hz3 hz3s hz3b rfl (by decide) _ _ _ rfl (Hrowu3.out.alloc _) ⟨W3.heap.size, 0, none⟩ 1 1 [.int .i64 ((e : Int) + (x.size : Int))] rfl rfl (cell_one_new _ _ _) (by simp [Value.oneCell']) (by simp only [maxLen]; omega) (by omega) (by show _ ≤ (W3.alloc _).heap.size; simp; omega) ?_
                intro v' w4 hown4 hgrow4
                obtain ⟨g4, cap4, rfl⟩ := ownsRow_succ hown4
                obtain ⟨hc4, hf4, hfin4⟩ := hfin _ _ _ hown4 hgrow4
                refine wpAnyIn_ready (rs := [12]) (by kernel_rfl) (by simp) ?_
                refine AllReadyIn.cons rfl (fun K hK => ?_) AllReadyIn.nil
                go_simp
                refine hK _ _ ?_
                clear hK K
                refine wpAnyIn_done (by kernel_rfl) ?_ _
                exact hfin4 ⟨#[], []⟩
              exact AllReadyIn.nil
            exact AllReadyIn.nil
          exact AllReadyIn.nil
        exact AllReadyIn.nil
      refine AllReadyIn.cons rfl (fun K hK => ?_) ?_
      · go_simp
        refine hK _ _ ?_
        clear hK K
        refine wpAnyIn_take (i := 3) (v := ?_) rfl rfl (by kernel_rfl) (by kernel_rfl) (by kernel_rfl) (fun _ _ _ h => h) ⟨Or.inl ⟨by rfl, ?hy⟩, fun _ => rfl⟩ ?_; (case hy => (intro w_; first | (go_simp; done) | (go_simp; with_reducible rfl)))
        refine wpAnyIn_take (i := 4) (v := ?_) rfl rfl (by kernel_rfl) (by kernel_rfl) (by kernel_rfl) (fun _ _ _ h => h) ⟨Or.inl ⟨by rfl, ?hy⟩, fun _ => rfl⟩ ?_; (case hy => (intro w_; first | (go_simp; done) | (go_simp; with_reducible rfl)))
        refine wpAnyIn_ready (rs := [0, 1]) (by kernel_rfl) (by simp) ?_
        refine AllReadyIn.cons rfl (fun K hK => ?_) ?_
        · go_simp
          refine hK _ _ ?_
          clear hK K
          refine wpAnyIn_ready (rs := [1]) (by kernel_rfl) (by simp) ?_
          refine AllReadyIn.cons rfl (fun K hK => ?_) ?_
          · go_simp
            refine hK _ _ ?_
            clear hK K
            refine wpAnyIn_take (i := 5) (v := ?_) rfl rfl (by kernel_rfl) (by kernel_rfl) (by kernel_rfl) (fun _ _ _ h => h) ⟨Or.inl ⟨by rfl, ?hy⟩, fun _ => rfl⟩ ?_; (case hy => (intro w_; first | (go_simp; done) | (go_simp; with_reducible rfl)))
            refine wpAnyIn_ready (rs := [6]) (by kernel_rfl) (by simp) ?_
            refine AllReadyIn.cons rfl (fun K hK => ?_) ?_
            · go_simp
              refine hK _ _ ?_
              clear hK K
              refine wpAnyIn_take (i := 9) (v := ?_) rfl rfl (by kernel_rfl) (by kernel_rfl) (by kernel_rfl) (fun _ _ _ h => h) ⟨Or.inl ⟨by rfl, ?hy⟩, fun _ => rfl⟩ ?_; (case hy => (intro w_; first | (go_simp; done) | (go_simp; with_reducible rfl)))
              refine wpAnyIn_ready (rs := [10]) (by kernel_rfl) (by simp) ?_
              refine AllReadyIn.cons rfl (fun K hK => ?_) ?_
              · go_simp
                refine hK _ _ ?_
                clear hK K
                refine any_append_own (i := 11) (by kernel_rfl) rfl (by kernel_rfl) rfl _ _ 78 rfl w.heap.size 3 i3 (.int .i64 0) 1 8 Tryd.underlying78 hi3 hz3 hz3s hz3b rfl (by decide) _ _ _ rfl (Hrowu3.out.alloc _) ⟨W3.heap.size, 0, none⟩ 1 1 [.int .i64 ((e : Int) + (x.size : Int))] rfl rfl (cell_one_new _ _ _) (by simp [Value.oneCell']) (by simp only [maxLen]; omega) (by omega) (by show _ ≤ (W3.alloc _).heap.size; simp; omega) ?_
                intro v' w4 hown4 hgrow4
                obtain ⟨g4, cap4, rfl⟩ := ownsRow_succ hown4
                obtain ⟨hc4, hf4, hfin4⟩ := hfin _ _ _ hown4 hgrow4
                refine wpAnyIn_ready (rs := [12]) (by kernel_rfl) (by simp) ?_
                refine AllReadyIn.cons rfl (fun K hK => ?_) AllReadyIn.nil
                go_simp
                refine hK _ _ ?_
                clear hK K
                refine wpAnyIn_done (by kernel_rfl) ?_ _
                exact hfin4 ⟨#[], []⟩
              exact AllReadyIn.nil
            exact AllReadyIn.nil
          exact AllReadyIn.nil
        refine AllReadyIn.cons rfl (fun K hK => ?_) ?_
        · go_simp
          refine hK _ _ ?_
          clear hK K
          refine wpAnyIn_take (i := 5) (v := ?_) rfl rfl (by kernel_rfl) (by kernel_rfl) (by kernel_rfl) (fun _ _ _ h => h) ⟨Or.inl ⟨by rfl, ?hy⟩, fun _ => rfl⟩ ?_; (case hy => (intro w_; first | (go_simp; done) | (go_simp; with_reducible rfl)))
          refine wpAnyIn_ready (rs := [0, 6]) (by kernel_rfl) (by simp) ?_
          refine AllReadyIn.cons rfl (fun K hK => ?_) ?_
          · go_simp
            refine hK _ _ ?_
            clear hK K
            refine wpAnyIn_ready (rs := [6]) (by kernel_rfl) (by simp) ?_
            refine AllReadyIn.cons rfl (fun K hK => ?_) ?_
            · go_simp
              refine hK _ _ ?_
              clear hK K
              refine wpAnyIn_take (i := 9) (v := ?_) rfl rfl (by kernel_rfl) (by kernel_rfl) (by kernel_rfl) (fun _ _ _ h => h) ⟨Or.inl ⟨by rfl, ?hy⟩, fun _ => rfl⟩ ?_; (case hy => (intro w_; first | (go_simp; done) | (go_simp; with_reducible rfl)))
              refine wpAnyIn_ready (rs := [10]) (by kernel_rfl) (by simp) ?_
              refine AllReadyIn.cons rfl (fun K hK => ?_) ?_
              · go_simp
                refine hK _ _ ?_
                clear hK K
                refine any_append_own (i := 11) (by kernel_rfl) rfl (by kernel_rfl) rfl _ _ 78 rfl w.heap.size 3 i3 (.int .i64 0) 1 8 Tryd.underlying78 hi3 hz3 hz3s hz3b rfl (by decide) _ _ _ rfl (Hrowu3.out.alloc _) ⟨W3.heap.size, 0, none⟩ 1 1 [.int .i64 ((e : Int) + (x.size : Int))] rfl rfl (cell_one_new _ _ _) (by simp [Value.oneCell']) (by simp only [maxLen]; omega) (by omega) (by show _ ≤ (W3.alloc _).heap.size; simp; omega) ?_
                intro v' w4 hown4 hgrow4
                obtain ⟨g4, cap4, rfl⟩ := ownsRow_succ hown4
                obtain ⟨hc4, hf4, hfin4⟩ := hfin _ _ _ hown4 hgrow4
                refine wpAnyIn_ready (rs := [12]) (by kernel_rfl) (by simp) ?_
                refine AllReadyIn.cons rfl (fun K hK => ?_) AllReadyIn.nil
                go_simp
                refine hK _ _ ?_
                clear hK K
                refine wpAnyIn_done (by kernel_rfl) ?_ _
                exact hfin4 ⟨#[], []⟩
              exact AllReadyIn.nil
            exact AllReadyIn.nil
          refine AllReadyIn.cons rfl (fun K hK => ?_) ?_
          · go_simp
            refine hK _ _ ?_
            clear hK K
            refine wpAnyIn_take (i := 9) (v := ?_) rfl rfl (by kernel_rfl) (by kernel_rfl) (by kernel_rfl) (fun _ _ _ h => h) ⟨Or.inl ⟨by rfl, ?hy⟩, fun _ => rfl⟩ ?_; (case hy => (intro w_; first | (go_simp; done) | (go_simp; with_reducible rfl)))
            refine wpAnyIn_ready (rs := [0, 10]) (by kernel_rfl) (by simp) ?_
            refine AllReadyIn.cons rfl (fun K hK => ?_) ?_
            · go_simp
              refine hK _ _ ?_
              clear hK K
              refine wpAnyIn_ready (rs := [10]) (by kernel_rfl) (by simp) ?_
              refine AllReadyIn.cons rfl (fun K hK => ?_) ?_
              · go_simp
                refine hK _ _ ?_
                clear hK K
                refine any_append_own (i := 11) (by kernel_rfl) rfl (by kernel_rfl) rfl _ _ 78 rfl w.heap.size 3 i3 (.int .i64 0) 1 8 Tryd.underlying78 hi3 hz3 hz3s hz3b rfl (by decide) _ _ _ rfl (Hrowu3.out.alloc _) ⟨W3.heap.size, 0, none⟩ 1 1 [.int .i64 ((e : Int) + (x.size : Int))] rfl rfl (cell_one_new _ _ _) (by simp [Value.oneCell']) (by simp only [maxLen]; omega) (by omega) (by show _ ≤ (W3.alloc _).heap.size; simp; omega) ?_
                intro v' w4 hown4 hgrow4
                obtain ⟨g4, cap4, rfl⟩ := ownsRow_succ hown4
                obtain ⟨hc4, hf4, hfin4⟩ := hfin _ _ _ hown4 hgrow4
                refine wpAnyIn_ready (rs := [12]) (by kernel_rfl) (by simp) ?_
                refine AllReadyIn.cons rfl (fun K hK => ?_) AllReadyIn.nil
                go_simp
                refine hK _ _ ?_
                clear hK K
                refine wpAnyIn_done (by kernel_rfl) ?_ _
                exact hfin4 ⟨#[], []⟩
              exact AllReadyIn.nil
            refine AllReadyIn.cons rfl (fun K hK => ?_) ?_
            · go_simp
              refine hK _ _ ?_
              clear hK K
              refine wpAnyIn_ready (rs := [0]) (by kernel_rfl) (by simp) ?_
              refine AllReadyIn.cons rfl (fun K hK => ?_) ?_
              · go_simp
                refine hK _ _ ?_
                clear hK K
                refine any_append_own (i := 11) (by kernel_rfl) rfl (by kernel_rfl) rfl _ _ 78 rfl w.heap.size 3 i3 (.int .i64 0) 1 8 Tryd.underlying78 hi3 hz3 hz3s hz3b rfl (by decide) _ _ _ rfl (Hrowu3.out.alloc _) ⟨W3.heap.size, 0, none⟩ 1 1 [.int .i64 ((e : Int) + (x.size : Int))] rfl rfl (cell_one_new _ _ _) (by simp [Value.oneCell']) (by simp only [maxLen]; omega) (by omega) (by show _ ≤ (W3.alloc _).heap.size; simp; omega) ?_
                intro v' w4 hown4 hgrow4
                obtain ⟨g4, cap4, rfl⟩ := ownsRow_succ hown4
                obtain ⟨hc4, hf4, hfin4⟩ := hfin _ _ _ hown4 hgrow4
                refine wpAnyIn_ready (rs := [12]) (by kernel_rfl) (by simp) ?_
                refine AllReadyIn.cons rfl (fun K hK => ?_) AllReadyIn.nil
                go_simp
                refine hK _ _ ?_
                clear hK K
                refine wpAnyIn_done (by kernel_rfl) ?_ _
                exact hfin4 ⟨#[], []⟩
              exact AllReadyIn.nil
            exact AllReadyIn.nil
          exact AllReadyIn.nil
        exact AllReadyIn.nil
      exact AllReadyIn.nil
  case done =>
    rintro D W hD ⟨_, e, out, es, h1, h2, h3, h4, v, u, hv, hrow, hu, hrowu, hBl⟩ hK
    have h4' := h4 [] (by simp)
    obtain ⟨rfl, rfl⟩ : out = r1 ∧ es ++ [(e : Int)] = r2 := by simpa [decL] using h4'
    have hc := hv.cell
    have hcu := hu.cell
    have hmx : Tryd.prog.follows .mixedOrders = true := by kernel_rfl
    clear h1 h2 h3 h4 h4'
    gi_wp2
    gi_region
    all_goals gi_wp2
    all_goals refine ⟨by simp, .inl ⟨_, _, rfl, run_takeDeferred (show W.drew.heap[D]? = _ from hK), ?_⟩⟩
    all_goals exact ⟨_, results_tmp2 rfl _ _ _, v, u, rfl, ⟨fun _ _ => trivial, _, ownsRow_putObj (W := W.drew) hrow _ hK rfl, reps36 _⟩, ⟨fun _ _ => trivial, _, ownsRow_putObj (W := W.drew) hrowu _ hK rfl, repsI _⟩, (show Below w.heap.size w W.drew from ⟨hBl.os, hBl.tape, hBl.output, hBl.size, hBl.block⟩).trans (belowK_b (w := w) (Nat.le_refl _) W.drew D _ _ (by omega) hK rfl rfl)⟩
  case stop =>
    rintro D c pre W hD _ ⟨rfl, _, v, u, hv, hrow, hu, hrowu, hBl⟩ hK
    have hc := hv.cell
    have hcu := hu.cell
    have hmx : Tryd.prog.follows .mixedOrders = true := by kernel_rfl
    gi_wp2
    gi_region
    all_goals gi_wp2
    all_goals refine ⟨by simp, .inl ⟨_, _, rfl, run_takeDeferred (show W.drew.heap[D]? = _ from hK), ?_⟩⟩
    all_goals exact ⟨_, results_tmp2 rfl _ _ _, v, u, rfl, ⟨fun _ _ => trivial, _, ownsRow_putObj (W := W.drew) hrow _ hK rfl, reps36 _⟩, ⟨fun _ _ => trivial, _, ownsRow_putObj (W := W.drew) hrowu _ hK rfl, repsI _⟩, (show Below w.heap.size w W.drew from ⟨hBl.os, hBl.tape, hBl.output, hBl.size, hBl.block⟩).trans (belowK_b (w := w) (Nat.le_refl _) W.drew D _ _ (by omega) hK rfl rfl)⟩
end Go.Proofs.YtnbhbnndfpfikaaDoor.X
