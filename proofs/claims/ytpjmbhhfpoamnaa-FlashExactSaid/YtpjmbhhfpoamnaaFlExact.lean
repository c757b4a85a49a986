import Derived.Test.YtpjmbhhfpoamnaaFlBoth
set_option linter.unusedVariables false
set_option linter.unusedSimpArgs false
namespace Go.Proofs.Ytpjmbhhfpoamnaa
open Go.RowKit
/-- append in a region, at an operation that is guarded and wanted -/
theorem ap_stepG {P : Program} {w : World} {ops : Array Oper} {o : Oper} {a : Act} {K : Act → World → Prop} {Q : Exit → Act → World → Prop} {F : Prop} {t e size bytes : Nat} {z : Value} (E : ElemT P t e z size bytes) (hwt : Region.wanted o (yielded ops a.tmps) = true) (s x : Operand)
    (ho : o.op = .call { callee := .builtin .append, args := #[s, x], argTypes := #[t, t] }) {base : Nat}
    {v : Value} {n : Nat} {xs : List Value} (hs : a.eval s = v) (hown : w.ownsRow base e size v n xs)
    {A : Option Addr} {m c : Nat} {news : List Value} (hx : a.eval x = .slice A m c) (hsl : Sl w size A m c news) (h1 : ∀ u ∈ news, u.oneCell' = true)
    (h63 : n + m ≤ maxLen) (hbytes : (n + m) * bytes ≤ 140737488355328) (hbase : base ≤ w.heap.size)
    (h : ∀ v' w', w'.ownsRow base e size v' (n + m) (xs ++ news) → w.grownBy w' v.ownBlock → (v' = .slice none 0 0 ↔ v = .slice none 0 0 ∧ m = 0) → K (a.put o.dst v') w') :
    if Region.wanted o (yielded ops a.tmps) = true then Oper.wp P o a w K Q else F := by
  rw [if_pos hwt]
  exact ap_wp E s x ho hs hown hx hsl h1 h63 hbytes hbase h
/-- append to an empty literal, at an operation that is guarded and wanted -/
theorem app_lit {P : Program} {w : World} {ops : Array Oper} {o : Oper} {a : Act} {K : Act → World → Prop} {Q : Exit → Act → World → Prop} {F : Prop} {t e bytes : Nat} {z : Value} (E : ElemT P t e z 1 bytes) (hwt : Region.wanted o (yielded ops a.tmps) = true) (s x : Operand)
    (ho : o.op = .call { callee := .builtin .append, args := #[s, x], argTypes := #[t, t] }) {k : Nat}
    (hs : a.eval s = .slice (some ⟨k, 0, none⟩) 0 0) (hk : w.heap[k]? = some (.cells #[] e (0, 0)))
    {A : Option Addr} {m c : Nat} {news : List Value} (hx : a.eval x = .slice A m c) (hsl : Sl w 1 A m c news) (h1 : ∀ u ∈ news, u.oneCell' = true)
    (h63 : m ≤ maxLen) (hbytes : m * bytes ≤ 140737488355328)
    (h : ∀ A' c' w', Sl w' 1 A' m c' news → Below w.heap.size w w' → K (a.put o.dst (.slice A' m c')) w') :
    if Region.wanted o (yielded ops a.tmps) = true then Oper.wp P o a w K Q else F := by
  rw [if_pos hwt]
  have hlt : k < w.heap.size := lt_of_block hk
  have hown : w.ownsRow 0 e 1 (.slice (some ⟨k, 0, none⟩) 0 0) 0 [] := ⟨rfl, .inr ⟨k, 0, #[], rfl, Nat.zero_le _, hk, Nat.le_refl _, by decide, rfl, rfl⟩⟩
  obtain ⟨i, hi, hz0, hz1, hz2⟩ := info_parts E.info
  cases A with
  | none =>
    obtain rfl : c = 0 := hsl.nil rfl
    obtain rfl : m = 0 := by have := hsl.le; omega
    obtain rfl : news = [] := List.eq_nil_of_length_eq_zero (by have := hsl.len; simpa using this)
    have hrun := run_append_owned_none (P := P) (w := w) 0 t o.type e i 1 E.und hi _ 0 [] hown
    unfold Oper.wp
    simp [execOp, ho, resolve, invoke, builtin, hs, hx, hrun, Result.andThen]
    exact h _ _ w (own_sl' hown).2.1 (Below.refl _ _)
  | some ad =>
    obtain ⟨v', w', hr, h2, h3, h4⟩ := run_append_own (P := P) w 0 t o.type e i z 1 bytes E.und hi hz0 hz1 hz2 E.zs E.pos _ 0 [] hown ad m c news hsl.len hsl.news h1 (by omega) (by rw [Nat.zero_add]; exact hbytes) (Nat.zero_le _)
    have h6 := ap_rows (ty := o.type) E.und hi hz0 (hz1.symm ▸ hown) (hz1.symm ▸ hsl.len) hsl.news h1 (by omega) (hz2.symm ▸ (by rw [Nat.zero_add]; exact hbytes)) hr
    rw [hz1] at h6
    have h7 := h6 0 _ 0 [] (Nat.le_refl _) hown
    have h8 : w'.heap[k]? = w.heap[k]? := by
      rcases h7.2 with ⟨h9, _⟩ | ⟨g, cap, cur, h9, _, hg, _, _, hcs, _⟩
      · simp at h9
      · injection h9 with h9 _ h11
        injection h9 with h9
        injection h9 with h9
        subst h9
        subst h11
        rw [hg, hk]
        have : cur = #[] := Array.eq_empty_of_size_eq_zero (by simpa using hcs)
        rw [this]
    unfold Oper.wp execOp
    simp only [ho, resolve, invoke, builtin, Sem.run_bind, Sem.run_pure, Result.andThen_ok, List.map_toArray, List.map_cons, List.map_nil, hs, hx, hr]
    rw [Nat.zero_add] at h2
    obtain ⟨A', c', rfl, hs', _⟩ := own_sl h2
    refine h A' c' w' hs' ⟨h3.os, h3.tape, h3.output, h3.size, fun y hy => ?_⟩
    by_cases hyk : y = k
    · subst hyk; exact h8
    · exact h3.block y hy (fun e => hyk (by have h9 := Option.some.inj e; exact h9))
theorem lit_two (w : World) : ((w.alloc (.cells #[] 5)).alloc (.cells #[] 5)).heap[w.heap.size + 1]? = some (.cells #[] 5 (0, 0)) := by
  have h := heap_alloc_new (w.alloc (.cells #[] 5)) (.cells #[] 5)
  have e : (w.alloc (.cells #[] 5)).heap.size = w.heap.size + 1 := by simp
  rw [e] at h
  exact h
/-- the two flashes, and the variable that holds the document's -/
structure ExI (W w : World) (p gv : Nat) (v : List Value) (s : FSt) : Prop where
  out : ∃ G, Fl w p G s ∧ RFl w v s ([gv] ++ G) ∧ (∀ x ∈ G, W.heap.size ≤ x) ∧ gv ∉ G
  blk : w.heap[gv]? = some (.cells v.toArray 37 (0, 0))
  gvl : W.heap.size ≤ gv
  below : Below W.heap.size W w
theorem ExI.then_ {W w w' : World} {p gv : Nat} {v : List Value} {s : FSt} (h : ExI W w p gv v s) (k : Below w.heap.size w w') : ExI W w' p gv v s :=
  let ⟨G, h1, h2, h3, h4⟩ := h.out
  ⟨⟨G, h1.below k, h2.below k, h3, h4⟩, heap_below h.blk k, h.gvl, bthen h.below k⟩
/-- behind both: the variable is not yet stored -/
structure ExB (W w : World) (p gv : Nat) (v0 v : List Value) (s : FSt) : Prop where
  out : ∃ G, Fl w p G s ∧ RFl w v s ([gv] ++ G) ∧ (∀ x ∈ G, W.heap.size ≤ x) ∧ gv ∉ G
  blk : w.heap[gv]? = some (.cells v0.toArray 37 (0, 0))
  gvl : W.heap.size ≤ gv
  below : Below W.heap.size W w
theorem ExI.both {W w : World} {p gv : Nat} {v : List Value} {s : FSt} (h : ExI W w p gv v s) (hk : FOk s) (t : St12) {D : Option Addr} {m d : Nat} (hb : Sl w 1 D m d (t.b.map by8)) (hm : m ≤ 2097152) (hDW : 0 < m → ∀ ad, D = some ad → ad.block < W.heap.size) :
    Calls Try.prog 43 #[.pointer (some ⟨p, 0, none⟩), .agg v.toArray, .agg #[.int .i64 t.kd, .int .i64 t.bank, .slice D m d, .int .i64 t.x, .int .i64 t.y]] w fun e w' => ∃ v', e = .returned (.tuple #[.agg v'.toArray, .bool true]) ∧ ExB W w' p gv v v' (doesF s t).1 := by
  obtain ⟨G, h1, h2, h3, h4⟩ := h.out
  have hg := lt_of_block h.blk
  refine (both12 w h1 h2 (by simpa using hg) hk t hb hm (fun h0 ad e hx => by have h5 := h3 _ hx; have h6 := hDW h0 ad e; omega)).mono ?_
  rintro e w' ⟨v', he, G', k1, k2, k3, k4⟩
  refine ⟨v', he, ⟨G', k1, k2, fun x hx => ?_, fun hx => ?_⟩, k3.heap h.blk h4, h.gvl, k3.below h.below h.below.size h3⟩
  · rcases k4 x hx with h5 | h5
    · exact h3 x h5
    · exact Nat.le_trans h.below.size h5
  · rcases k4 _ hx with h5 | h5
    · exact h4 h5
    · omega
theorem ExB.then_ {W w w' : World} {p gv : Nat} {v0 v : List Value} {s : FSt} (h : ExB W w p gv v0 v s) (k : Below w.heap.size w w') : ExB W w' p gv v0 v s :=
  let ⟨G, h1, h2, h3, h4⟩ := h.out
  ⟨⟨G, h1.below k, h2.below k, h3, h4⟩, heap_below h.blk k, h.gvl, bthen h.below k⟩
theorem ExB.store {W w w' : World} {p gv : Nat} {v0 v : List Value} {s : FSt} (h : ExB W w p gv v0 v s) (k : Keep [gv] w w') (hb : w'.heap[gv]? = some (.cells v.toArray 37 (0, 0))) : ExI W w' p gv v s :=
  let ⟨G, h1, h2, h3, h4⟩ := h.out
  ⟨⟨G, h1.keep k (fun x hx hy => by simp at hy; subst hy; exact h4 hx), h2.keep (k.mono (by intro x hx; simp at hx; simp [hx])), h3, h4⟩, hb, h.gvl, k.below h.below h.below.size (fun x hx => by simp at hx; subst hx; exact h.gvl)⟩
theorem ExI.told {W w : World} {p gv : Nat} {v : List Value} {s : FSt} (h : ExI W w p gv v s) (hk : FOk s) :
    Calls Try.prog 29 #[.pointer (some ⟨p, 0, none⟩), .agg v.toArray] w fun e w' => e = .returned (.bool true) ∧ Below w.heap.size w w' :=
  let ⟨G, h1, h2, _, _⟩ := h.out
  told12 w h1 h2 hk
/-- the document's flash by its seven cells -/
structure V7 where
  (z k0 k1 k2 cn wt a b c : Nat)
  (A B C : Option Addr)
  dn : Bool
def V7.l (u : V7) : List Value := [.int .i64 u.z, .slice u.A u.k0 u.a, .slice u.B u.k1 u.b, .slice u.C u.k2 u.c, .int .i64 u.cn, .int .i64 u.wt, .bool u.dn]
theorem RFl.form {w : World} {v : List Value} {s : FSt} {Xs : List Nat} (h : RFl w v s Xs) : ∃ u : V7, v = u.l :=
  let ⟨A, B, C, a, b, c, e, _⟩ := h.out
  ⟨⟨s.size, s.b0.length, s.b1.length, s.armed.length, s.count, s.writes, a, b, c, A, B, C, s.down⟩, e⟩
theorem ExI.both7 {W w : World} {p gv : Nat} {u : V7} {s : FSt} (h : ExI W w p gv u.l s) (hk : FOk s) (t : St12) {D : Option Addr} {m d : Nat} (hb : Sl w 1 D m d (t.b.map by8)) (hm : m ≤ 2097152) (hDW : 0 < m → ∀ ad, D = some ad → ad.block < W.heap.size) :
    Calls Try.prog 43 #[.pointer (some ⟨p, 0, none⟩), .agg #[.int .i64 u.z, .slice u.A u.k0 u.a, .slice u.B u.k1 u.b, .slice u.C u.k2 u.c, .int .i64 u.cn, .int .i64 u.wt, .bool u.dn], .agg #[.int .i64 t.kd, .int .i64 t.bank, .slice D m d, .int .i64 t.x, .int .i64 t.y]] w fun e w' => ∃ u2 : V7, e = .returned (.tuple #[.agg #[.int .i64 u2.z, .slice u2.A u2.k0 u2.a, .slice u2.B u2.k1 u2.b, .slice u2.C u2.k2 u2.c, .int .i64 u2.cn, .int .i64 u2.wt, .bool u2.dn], .bool true]) ∧ ExB W w' p gv u.l u2.l (doesF s t).1 := by
  refine (h.both hk t hb hm hDW).mono ?_
  rintro e w' ⟨v', rfl, hB⟩
  obtain ⟨G, h1, h2, h3, h4⟩ := hB.out
  obtain ⟨u2, rfl⟩ := h2.form
  exact ⟨u2, rfl, hB⟩
/-- behind both, the result in a variable of its own -/
structure ExC (W w : World) (p gv x : Nat) (v0 zs v : List Value) (s : FSt) : Prop where
  out : ∃ G, Fl w p G s ∧ RFl w v s ([gv, x] ++ G) ∧ (∀ y ∈ G, W.heap.size ≤ y) ∧ gv ∉ G ∧ x ∉ G
  blk : w.heap[gv]? = some (.cells v0.toArray 37 (0, 0))
  xbk : w.heap[x]? = some (.cells zs.toArray 37 (0, 0))
  gvl : W.heap.size ≤ gv
  xl : W.heap.size ≤ x
  ne : gv ≠ x
  below : Below W.heap.size W w
theorem ExI.bothX {W w0 w : World} {p gv x : Nat} {u : V7} {zs : List Value} {s : FSt} (h : ExI W w0 p gv u.l s) (k : Below w0.heap.size w0 w) (hx : w.heap[x]? = some (.cells zs.toArray 37 (0, 0))) (hxl : w0.heap.size ≤ x) (hk : FOk s) (t : St12) {D : Option Addr} {m d : Nat} (hb : Sl w 1 D m d (t.b.map by8)) (hm : m ≤ 2097152) (hDW : 0 < m → ∀ ad, D = some ad → ad.block < W.heap.size) :
    Calls Try.prog 43 #[.pointer (some ⟨p, 0, none⟩), .agg #[.int .i64 u.z, .slice u.A u.k0 u.a, .slice u.B u.k1 u.b, .slice u.C u.k2 u.c, .int .i64 u.cn, .int .i64 u.wt, .bool u.dn], .agg #[.int .i64 t.kd, .int .i64 t.bank, .slice D m d, .int .i64 t.x, .int .i64 t.y]] w fun e w' => ∃ u2 : V7, e = .returned (.tuple #[.agg #[.int .i64 u2.z, .slice u2.A u2.k0 u2.a, .slice u2.B u2.k1 u2.b, .slice u2.C u2.k2 u2.c, .int .i64 u2.cn, .int .i64 u2.wt, .bool u2.dn], .bool true]) ∧ ExC W w' p gv x u.l zs u2.l (doesF s t).1 := by
  obtain ⟨G, h1, h2, h3, h4⟩ := h.out
  have hg := lt_of_block h.blk
  have hxx := lt_of_block hx
  have hne : gv ≠ x := by omega
  have hxG : x ∉ G := fun hy => by have := h1.lts _ hy; omega
  have hW := h.below.size
  have h2' : RFl w u.l s ([gv, x] ++ G) := (h2.grow (Ys := [gv, x] ++ G) (fun y hy => by
    simp at hy
    rcases hy with rfl | rfl | hy
    · exact .inl (by simp)
    · exact .inr hxl
    · exact .inl (by simp [hy]))).below k
  refine (both12 w (h1.below k) h2' (fun y hy => by simp at hy; rcases hy with rfl | rfl; exact Nat.lt_of_lt_of_le hg k.size; exact hxx) hk t hb hm (fun h0 ad e hx => by have h5 := h3 _ hx; have h6 := hDW h0 ad e; omega)).mono ?_
  rintro e w' ⟨v', rfl, G', k1, k2, k3, k4⟩
  obtain ⟨u2, rfl⟩ := k2.form
  have hnew : ∀ y ∈ G', y ∈ G ∨ w.heap.size ≤ y := k4
  refine ⟨u2, rfl, ⟨G', k1, k2, fun y hy => ?_, fun hy => ?_, fun hy => ?_⟩, k3.heap (heap_below h.blk k) h4, k3.heap hx hxG, h.gvl, Nat.le_trans hW hxl, hne, k3.below (bthen h.below k) (Nat.le_trans hW k.size) h3⟩
  · rcases hnew y hy with h5 | h5
    · exact h3 y h5
    · exact Nat.le_trans (Nat.le_trans hW k.size) h5
  · rcases hnew _ hy with h5 | h5
    · exact h4 h5
    · have := k.size; omega
  · rcases hnew _ hy with h5 | h5
    · exact hxG h5
    · omega
theorem ExC.put {W w w' : World} {p gv x : Nat} {v0 zs zs' v : List Value} {s : FSt} (h : ExC W w p gv x v0 zs v s) (k : Keep [x] w w') (hb : w'.heap[x]? = some (.cells zs'.toArray 37 (0, 0))) : ExC W w' p gv x v0 zs' v s :=
  let ⟨G, h1, h2, h3, h4, h5⟩ := h.out
  ⟨⟨G, h1.keep k (fun y hx hy => by simp at hy; subst hy; exact h5 hx), h2.keep (k.mono (by intro y hx; simp at hx; simp [hx])), h3, h4, h5⟩, k.heap h.blk (by simp; exact h.ne), hb, h.gvl, h.xl, h.ne, k.below h.below h.below.size (fun y hx => by simp at hx; subst hx; exact h.xl)⟩
theorem ExC.then_ {W w w' : World} {p gv x : Nat} {v0 zs v : List Value} {s : FSt} (h : ExC W w p gv x v0 zs v s) (k : Below w.heap.size w w') : ExC W w' p gv x v0 zs v s :=
  let ⟨G, h1, h2, h3, h4⟩ := h.out
  ⟨⟨G, h1.below k, h2.below k, h3, h4⟩, heap_below h.blk k, heap_below h.xbk k, h.gvl, h.xl, h.ne, bthen h.below k⟩
theorem ExC.fin {W w w' : World} {p gv x : Nat} {v0 zs v : List Value} {s : FSt} (h : ExC W w p gv x v0 zs v s) (k : Keep [gv] w w') (hb : w'.heap[gv]? = some (.cells v.toArray 37 (0, 0))) : ExI W w' p gv v s :=
  let ⟨G, h1, h2, h3, h4, _⟩ := h.out
  ⟨⟨G, h1.keep k (fun x hx hy => by simp at hy; subst hy; exact h4 hx), (h2.keep (k.mono (by intro x hx; simp at hx; simp [hx]))).less (by intro y hy; simp at hy; rcases hy with rfl | hy <;> simp [*]), h3, h4⟩, hb, h.gvl, k.below h.below h.below.size (fun x hx => by simp at hx; subst hx; exact h.gvl)⟩
theorem ExB.toC {W w : World} {p gv : Nat} {v0 v : List Value} {s : FSt} (h : ExB W w p gv v0 v s) (zs : List Value) : ExC W (w.alloc (.cells zs.toArray 37)) p gv w.heap.size v0 zs v s := by
  obtain ⟨G, h1, h2, h3, h4⟩ := h.out
  have k : Below w.heap.size w (w.alloc (.cells zs.toArray 37)) := (Below.refl _ _).alloc (Nat.le_refl _) _
  have hg := lt_of_block h.blk
  refine ⟨⟨G, h1.below k, (h2.grow (Ys := [gv, w.heap.size] ++ G) (fun y hy => ?_)).below k, h3, h4, fun hx => ?_⟩, heap_below h.blk k, heap_alloc_new _ _, h.gvl, h.below.size, by omega, bthen h.below k⟩
  · simp at hy
    rcases hy with rfl | rfl | hy
    · exact .inl (by simp)
    · exact .inr (Nat.le_refl _)
    · exact .inl (by simp [hy])
  · have := h1.lts _ hx; omega
theorem ExI.told7 {W w : World} {p gv : Nat} {u : V7} {s : FSt} (h : ExI W w p gv u.l s) (hk : FOk s) :
    Calls Try.prog 29 #[.pointer (some ⟨p, 0, none⟩), .agg #[.int .i64 u.z, .slice u.A u.k0 u.a, .slice u.B u.k1 u.b, .slice u.C u.k2 u.c, .int .i64 u.cn, .int .i64 u.wt, .bool u.dn]] w fun e w' => e = .returned (.bool true) ∧ Below w.heap.size w w' := h.told hk
set_option maxRecDepth 100000 in
set_option maxHeartbeats 3200000 in
theorem FlashExact_walk (W : World) (zn : Int) {A B C : Option Addr} {n c m d q e0 : Nat} {l r : List UInt8} {vs : List Value} {ss : List St12} (ha : Sl W 1 A n c (l.map by8)) (hb : Sl W 1 B m d (r.map by8)) (hs : Sts W C q e0 vs ss) (hn : n ≤ 140737488351232) (hm : m ≤ 140737488351232) :
    Calls Try.prog 9 #[.int .i64 zn, .slice A n c, .slice B m d, .slice C q e0] W fun e w' => e = .returned (.bool true) ∧ Below W.heap.size W w' := by
  have n1 := ha.le; have n2 := ha.max; have m1 := hb.le; have m2 := hb.max; have q1 := hs.sl.le; have q2 := hs.sl.max
  by_cases g1 : 400 < q
  · have i0 : (400 : Int) < (q : Int) := by omega
    go_enter Try.func9, Try.ntmps9
    go_wp2
    go_ret
    exact ⟨rfl, Below.refl _ _⟩
  have i0 : decide ((400 : Int) < (q : Int)) = false := decide_eq_false (by omega)
  have hq : q ≤ 400 := by omega
  have hl : l.length = n := by simpa using ha.len
  have hr : r.length = m := by simpa using hb.len
  have HLs := Lib.hid (And.intro hs.len (And.intro hl hr))
  clear g1 hl hr
  go_enter Try.func9, Try.ntmps9
  go_wp2_with (first | (at_builtin; refine Stopped.out ?_) | (at_make; refine Stopped.out ?_))
  refine (size12_any _ hs hq).mono ?_
  rintro e w1 ⟨r1, rfl, a1, a2, a3, hd1⟩
  by_cases g3 : 2097152 < r1 + n + m
  · have i3 : (2097152 : Int) < (r1 : Int) + (n : Int) + (m : Int) := by omega
    go_wp2
    go_ret
    exact ⟨rfl, hd1.below⟩
  have i3 : decide ((2097152 : Int) < (r1 : Int) + (n : Int) + (m : Int)) = false := decide_eq_false (by omega)
  have HZ := Lib.hid (show size12 ss ≤ 2097152 by rw [← a2 (by omega)]; omega)
  have hn2 : n ≤ 2097152 := by omega
  have hm2 : m ≤ 2097152 := by omega
  have HB1 := Lib.hid hd1.below
  clear a1 a2 g3 hd1
  go_wp2_with (first | (at_builtin; refine Stopped.out ?_) | (at_make; refine Stopped.out ?_))
  refine (roomy12 _ (ha.below HB1.out) (by omega)).mono ?_
  rintro e w2 ⟨v2, rfl, o2, hb2⟩
  obtain ⟨ga, ca, rfl, hga, hga2, hca⟩ := own_form o2 (by omega)
  have L2 := Lib.hid (And.intro o2 (bthen HB1.out hb2))
  clear o2 hb2 hga hga2
  go_wp2_with (first | (at_builtin; refine Stopped.out ?_) | (at_make; refine Stopped.out ?_))
  refine (roomy12 _ (hb.below L2.out.2) (by omega)).mono ?_
  rintro e w3 ⟨v3, rfl, o3, hb3⟩
  obtain ⟨gb, cb, rfl, hgb, hgb2, hcb⟩ := own_form o3 (by omega)
  have hne : ga ≠ gb := fun e => by have h1 := (L2.out.1.lt ga rfl).2; omega
  have hcam := (own_sl' L2.out.1).2.1.max
  have hcbm := (own_sl' o3).2.1.max
  have L3 := Lib.hid (And.intro (own_below L2.out.1 hb3) (And.intro o3 (And.intro (bthen L2.out.2 hb3) hne)))
  have hsa : Sl w3.drew 1 (some ⟨ga, 0, none⟩) n ca (l.map by8) := by
    have := ((own_sl' L3.out.1).2.1.preB (m := n) (by omega)).drew
    rwa [roomL12_take l n HLs.out.2.1] at this
  have hsb : Sl w3.drew 1 (some ⟨gb, 0, none⟩) m cb (r.map by8) := by
    have := ((own_sl' L3.out.2.1).2.1.preB (m := m) (by omega)).drew
    rwa [roomL12_take r m HLs.out.2.2] at this
  have HLo := Lib.hid (flash_Load w3.drew zn hsa hsb)
  have iq1 : (n : Int) ≤ (ca : Int) := by omega
  have iq2 : (m : Int) ≤ (cb : Int) := by omega
  clear o3 hb3 hgb hgb2 hne hsa hsb
  go_wp2_with fail
  go_region_held3 (fun w' => True) (trivial) (first | (go_at_call 20; refine HLo.out.mono ?_; rintro e w4 ⟨G, rfl, f4, hb4, hG4⟩))
  have hG4' : ∀ x ∈ G, w3.heap.size ≤ x := hG4
  obtain ⟨p, hp⟩ : ∃ p, p = w3.drew.heap.size := ⟨_, rfl⟩
  rw [← hp] at f4
  have hp' : p = w3.heap.size := hp
  try rw [← hp]
  try rw [← hp']
  have hb34 : Below w3.heap.size w3 w4 := bthen ((Below.refl _ _).drew) hb4
  obtain ⟨s0, hs0⟩ : ∃ s0 : FSt, s0 = ⟨capF zn, l.take (capF zn), r.take (capF zn), [], 0, 0, false⟩ := ⟨_, rfl⟩
  rw [← hs0] at f4
  have hk0 : FOk s0 := by rw [hs0]; exact ⟨capF_le zn, by simp; omega, by simp; omega, by simp, by simp, by simp, by simp⟩
  have HK := Lib.hid (And.intro hk0 hs0)
  have L4 := Lib.hid (And.intro f4 (And.intro (own_below L3.out.1 hb34) (And.intro (own_below L3.out.2.1 hb34) (And.intro (bthen L3.out.2.2.1 hb34) (And.intro hG4' (And.intro ((L3.out.1.lt ga rfl).2) ((L3.out.2.1.lt gb rfl).2)))))))
  have HNE := Lib.hid L3.out.2.2.2
  have HW3 := Lib.hid L3.out.2.2.1.size
  have HGA := Lib.hid (And.intro (L3.out.1.lt ga rfl).1 (L3.out.2.1.lt gb rfl).1)
  have HB2 := Lib.hid (And.intro HB1.out.size L2.out.2.size)
  clear f4 hb4 hG4 hG4' hp hp' hb34 hs0 hk0 L3 HLo L2 HB1
  go_wp2_with (first | (at_builtin; refine Stopped.out ?_) | (at_make; refine Stopped.out ?_))
  refine (wiped12 _ L4.out.2.1 (ha.below L4.out.2.2.2.1) (by omega)).mono ?_
  rintro e w5 ⟨rfl, ⟨xa, hxa, oa⟩, k5⟩
  have hb5 : Below W.heap.size W w5 := k5.below L4.out.2.2.2.1 L4.out.2.2.2.1.size (fun x hx => by simp [Value.ownBlock] at hx; subst hx; have h1 := HGA.out.1; have h2 := HB2.out.1; omega)
  have L5 := Lib.hid (And.intro (L4.out.1.keep k5 (fun x hx hy => by have h1 := L4.out.2.2.2.2.1 x hx; have h2 := L4.out.2.2.2.2.2.1; simp [Value.ownBlock] at hy; omega)) (And.intro oa (And.intro (own_beside k5 L4.out.2.2.1 (fun j hj hk => HNE.out ((Option.some.inj hk).trans (Option.some.inj hj).symm))) (And.intro hb5 hxa))))
  clear oa k5 hb5 hxa
  go_wp2_with (first | (at_builtin; refine Stopped.out ?_) | (at_make; refine Stopped.out ?_))
  refine (wiped12 _ L5.out.2.2.1 (hb.below L5.out.2.2.2.1) (by omega)).mono ?_
  rintro e w6 ⟨rfl, ⟨xb, hxb, ob⟩, k6⟩
  have hb6 : Below W.heap.size W w6 := k6.below L5.out.2.2.2.1 L5.out.2.2.2.1.size (fun x hx => by simp [Value.ownBlock] at hx; subst hx; have h1 := HGA.out.2; have h2 := HB2.out; omega)
  have L6 := Lib.hid (And.intro (L5.out.1.keep k6 (fun x hx hy => by have h1 := L4.out.2.2.2.2.1 x hx; have h2 := L4.out.2.2.2.2.2.2; simp [Value.ownBlock] at hy; omega)) (And.intro (own_beside k6 L5.out.2.1 (fun j hj hk => HNE.out ((Option.some.inj hj).trans (Option.some.inj hk).symm))) (And.intro ob (And.intro hb6 (And.intro L5.out.2.2.2.2 hxb)))))
  have hRL := ref_Load w6 zn (ha.below hb6) (hb.below hb6) hn hm (Xs := G) L6.out.1.lts
  rw [← HK.out.2] at hRL
  have HRL := Lib.hid hRL
  clear ob k6 hb6 hxb L5 hRL
  go_wp2_with (first | (at_builtin; refine Stopped.out ?_) | (at_make; refine Stopped.out ?_))
  refine HRL.out.mono ?_
  rintro e w7 ⟨v, rfl, r7, hb7⟩
  obtain ⟨A1, B1, C1, a1, b1, c1, rfl, _⟩ := r7.out
  have hI : ExI W (w7.alloc (.cells (refV s0 A1 B1 C1 a1 b1 c1).toArray 37)) p w7.heap.size (refV s0 A1 B1 C1 a1 b1 c1) s0 := by
    have hbz : Below w7.heap.size w7 (w7.alloc (.cells (refV s0 A1 B1 C1 a1 b1 c1).toArray 37)) := (Below.refl _ _).alloc (Nat.le_refl _) _
    refine ⟨⟨G, (L6.out.1.below hb7).below hbz, (r7.grow (fun y hy => ?_)).below hbz, fun x hx => Nat.le_trans HW3.out (L4.out.2.2.2.2.1 x hx), fun hx => ?_⟩, heap_alloc_new _ _, (bthen L6.out.2.2.2.1 hb7).size, bthen (bthen L6.out.2.2.2.1 hb7) hbz⟩
    · simp at hy
      rcases hy with rfl | hy
      · exact .inr (Nat.le_refl _)
      · exact .inl hy
    · have h1 := L6.out.1.lts _ hx
      have h2 := hb7.size
      omega
  have hbz : Below w7.heap.size w7 (w7.alloc (.cells (refV s0 A1 B1 C1 a1 b1 c1).toArray 37)) := (Below.refl _ _).alloc (Nat.le_refl _) _
  have hra := own_below L6.out.2.1 (bthen hb7 hbz)
  have hrb := own_below L6.out.2.2.1 (bthen hb7 hbz)
  rw [refV_eq]
  rw [show (refV s0 A1 B1 C1 a1 b1 c1).toArray = #[.int .i64 s0.size, .slice A1 s0.b0.length a1, .slice B1 s0.b1.length b1, .slice C1 s0.armed.length c1, .int .i64 s0.count, .int .i64 s0.writes, .bool s0.down] from rfl] at hI hra hrb
  obtain ⟨z, hz⟩ : ∃ z, z = s0.size := ⟨_, rfl⟩
  obtain ⟨k0, hk0⟩ : ∃ z, z = s0.b0.length := ⟨_, rfl⟩
  obtain ⟨k1, hk1⟩ : ∃ z, z = s0.b1.length := ⟨_, rfl⟩
  obtain ⟨k2, hk2⟩ : ∃ z, z = s0.armed.length := ⟨_, rfl⟩
  obtain ⟨cn, hcn⟩ : ∃ z, z = s0.count := ⟨_, rfl⟩
  obtain ⟨wt, hwt⟩ : ∃ z, z = s0.writes := ⟨_, rfl⟩
  obtain ⟨dn, hdn⟩ : ∃ z, z = s0.down := ⟨_, rfl⟩
  have HE := Lib.hid (And.intro hz (And.intro hk0 (And.intro hk1 (And.intro hk2 (And.intro hcn (And.intro hwt hdn))))))
  rw [← hz, ← hk0, ← hk1, ← hk2, ← hcn, ← hwt, ← hdn] at hI hra hrb
  rw [← hz, ← hk0, ← hk1, ← hk2, ← hcn, ← hwt, ← hdn]
  have hIb := hI.blk
  obtain ⟨w8, hw8⟩ : ∃ w8, w8 = w7.alloc (.cells #[.int .i64 z, .slice A1 k0 a1, .slice B1 k1 b1, .slice C1 k2 c1, .int .i64 cn, .int .i64 wt, .bool dn] 37) := ⟨_, rfl⟩
  rw [← hw8] at hI hra hrb
  have hx8 : w8.heap[w7.heap.size]? = some (.cells #[.int .i64 z, .slice A1 k0 a1, .slice B1 k1 b1, .slice C1 k2 c1, .int .i64 cn, .int .i64 wt, .bool dn] 37 (0, 0)) := by rw [hw8]; exact heap_alloc_new _ _
  obtain ⟨gv, hgv⟩ : ∃ g, g = w7.heap.size := ⟨_, rfl⟩
  rw [← hgv] at hI hx8
  have L8 := Lib.hid (And.intro hI (And.intro hra (And.intro hrb hx8)))
  clear hI hra hrb hIb hbz hb7 r7 hx8 HRL hz hk0 hk1 hk2 hcn hwt hdn
  go_wp2_with fail
  rw [← hw8]
  try rw [← hgv]
  clear hw8 hgv
  have hsa : Sl w8.drew 1 (some ⟨ga, 0, none⟩) n ca ((xa.take n).map by8) := ((own_sl' L8.out.2.1).2.1.preB (m := n) (by omega)).drew
  have hsb : Sl w8.drew 1 (some ⟨gb, 0, none⟩) m cb ((xb.take m).map by8) := ((own_sl' L8.out.2.2.1).2.1.preB (m := m) (by omega)).drew
  have HLo := Lib.hid (flash_Load w8.drew zn hsa hsb)
  clear hsa hsb
  go_region_held3 (fun w' => True) (trivial) (first | (go_at_call 20; refine HLo.out.mono ?_; rintro e w9 ⟨G2, rfl, f9, hb9, hG9⟩))
  have hb89 : Below w8.heap.size w8 w9 := bthen ((Below.refl _ _).drew) hb9
  obtain ⟨p2, hp2⟩ : ∃ p, p = w8.drew.heap.size := ⟨_, rfl⟩
  rw [← hp2] at f9
  have hp2' : p2 = w8.heap.size := hp2
  try rw [← hp2]
  try rw [← hp2']
  clear hp2 hp2'
  obtain ⟨s2, hs2⟩ : ∃ s2 : FSt, s2 = ⟨capF zn, (xa.take n).take (capF zn), (xb.take m).take (capF zn), [], 0, 0, false⟩ := ⟨_, rfl⟩
  rw [← hs2] at f9
  have hk2' : FOk s2 := by rw [hs2]; exact ⟨capF_le zn, by simp; omega, by simp; omega, by simp, by simp, by simp, by simp⟩
  have HK2 := Lib.hid (And.intro hk2' hs2)
  have hT1 : Calls Try.prog 29 #[.pointer (some ⟨p, 0, none⟩), .agg #[.int .i64 z, .slice A1 k0 a1, .slice B1 k1 b1, .slice C1 k2 c1, .int .i64 cn, .int .i64 wt, .bool dn]] w9.drew fun e w' => e = .returned (.bool true) ∧ Below w9.drew.heap.size w9.drew w' := by
    have := ((L8.out.1.then_ hb89).then_ (w' := w9.drew) ((Below.refl _ _).drew)).told HK.out.1
    rw [refV_eq] at this
    obtain ⟨e0, e1, e2, e3, e4, e5, e6⟩ := HE.out
    rw [e0, e1, e2, e3, e4, e5, e6]
    exact this
  have L9 := Lib.hid (And.intro f9 (And.intro (L8.out.1.then_ hb89) (And.intro (own_below L8.out.2.1 hb89) (And.intro (own_below L8.out.2.2.1 hb89) (And.intro hT1 (heap_below L8.out.2.2.2 hb89))))))
  have c7 : w9.cell? ⟨gv, 0, none⟩ = some (.int .i64 z) ∧ w9.cell? ⟨gv, 1, none⟩ = some (.slice A1 k0 a1) ∧ w9.cell? ⟨gv, 2, none⟩ = some (.slice B1 k1 b1) ∧ w9.cell? ⟨gv, 3, none⟩ = some (.slice C1 k2 c1) ∧ w9.cell? ⟨gv, 4, none⟩ = some (.int .i64 cn) ∧ w9.cell? ⟨gv, 5, none⟩ = some (.int .i64 wt) ∧ w9.cell? ⟨gv, 6, none⟩ = some (.bool dn) := (let y := L9.out.2.2.2.2.2; ⟨box_cell y 0 _ rfl, box_cell y 1 _ rfl, box_cell y 2 _ rfl, box_cell y 3 _ rfl, box_cell y 4 _ rfl, box_cell y 5 _ rfl, box_cell y 6 _ rfl⟩)
  clear hs2 hk2' hT1 f9 hb9 hG9 hb89 HLo L8 L6
  go_wp2_with fail
  go_region_held3 (fun w' => w'.cell? ⟨gv, 0, none⟩ = some (.int .i64 z) ∧ w'.cell? ⟨gv, 1, none⟩ = some (.slice A1 k0 a1) ∧ w'.cell? ⟨gv, 2, none⟩ = some (.slice B1 k1 b1) ∧ w'.cell? ⟨gv, 3, none⟩ = some (.slice C1 k2 c1) ∧ w'.cell? ⟨gv, 4, none⟩ = some (.int .i64 cn) ∧ w'.cell? ⟨gv, 5, none⟩ = some (.int .i64 wt) ∧ w'.cell? ⟨gv, 6, none⟩ = some (.bool dn))
    (first | with_reducible exact t14 | with_reducible exact t13 | with_reducible exact t12 | with_reducible exact t11 | with_reducible exact t10 | with_reducible exact c7 | exact ⟨cell_al t11.1 _, cell_al t11.2.1 _, cell_al t11.2.2.1 _, cell_al t11.2.2.2.1 _, cell_al t11.2.2.2.2.1 _, cell_al t11.2.2.2.2.2.1 _, cell_al t11.2.2.2.2.2.2 _⟩ | exact ⟨cell_al t10.1 _, cell_al t10.2.1 _, cell_al t10.2.2.1 _, cell_al t10.2.2.2.1 _, cell_al t10.2.2.2.2.1 _, cell_al t10.2.2.2.2.2.1 _, cell_al t10.2.2.2.2.2.2 _⟩ | exact ⟨cell_al (cell_al t10.1 _) _, cell_al (cell_al t10.2.1 _) _, cell_al (cell_al t10.2.2.1 _) _, cell_al (cell_al t10.2.2.2.1 _) _, cell_al (cell_al t10.2.2.2.2.1 _) _, cell_al (cell_al t10.2.2.2.2.2.1 _) _, cell_al (cell_al t10.2.2.2.2.2.2 _) _⟩ | exact c7 | go_keep)
    (first
      | (go_at_call 29; refine M13.out.1.mono ?_; rintro e w14 ⟨rfl, hb14⟩; have M14 := Lib.hid (bthen M13.out.2.2 hb14); have t14 : w14.cell? ⟨gv, 0, none⟩ = some (.int .i64 z) ∧ w14.cell? ⟨gv, 1, none⟩ = some (.slice A1 k0 a1) ∧ w14.cell? ⟨gv, 2, none⟩ = some (.slice B1 k1 b1) ∧ w14.cell? ⟨gv, 3, none⟩ = some (.slice C1 k2 c1) ∧ w14.cell? ⟨gv, 4, none⟩ = some (.int .i64 cn) ∧ w14.cell? ⟨gv, 5, none⟩ = some (.int .i64 wt) ∧ w14.cell? ⟨gv, 6, none⟩ = some (.bool dn) := (let y := heap_below M13.out.2.1 hb14; ⟨box_cell y 0 _ rfl, box_cell y 1 _ rfl, box_cell y 2 _ rfl, box_cell y 3 _ rfl, box_cell y 4 _ rfl, box_cell y 5 _ rfl, box_cell y 6 _ rfl⟩))
      | (go_at_call 42; refine M12.out.1.mono ?_; rintro e w13 ⟨v13, rfl, r13, hb13⟩; have M13 := Lib.hid (And.intro (told12 w13 ((L9.out.1.below M12.out.2.2.2).below hb13) r13 HK2.out.1) (And.intro (heap_below M12.out.2.1 hb13) (bthen M12.out.2.2.1 hb13))); have t13 : w13.cell? ⟨gv, 0, none⟩ = some (.int .i64 z) ∧ w13.cell? ⟨gv, 1, none⟩ = some (.slice A1 k0 a1) ∧ w13.cell? ⟨gv, 2, none⟩ = some (.slice B1 k1 b1) ∧ w13.cell? ⟨gv, 3, none⟩ = some (.slice C1 k2 c1) ∧ w13.cell? ⟨gv, 4, none⟩ = some (.int .i64 cn) ∧ w13.cell? ⟨gv, 5, none⟩ = some (.int .i64 wt) ∧ w13.cell? ⟨gv, 6, none⟩ = some (.bool dn) := (let y := M13.out.2.1; ⟨box_cell y 0 _ rfl, box_cell y 1 _ rfl, box_cell y 2 _ rfl, box_cell y 3 _ rfl, box_cell y 4 _ rfl, box_cell y 5 _ rfl, box_cell y 6 _ rfl⟩))
      | (refine app_lit (w := w11) EF (by rfl) _ _ (by rfl) (by rfl) (by first | exact E11.out.1 | exact E11.out.2) (by rfl) (M11.out.2.1) (u8_one _) (by simp only [maxLen]; omega) (by omega) ?_; intro A12 c12 w12 s12 hg12; have M12 : Hid ((Calls Try.prog 42 #[.int .i64 zn, .slice A11 n c11, .slice A12 m c12] w12 fun e w' => ∃ v, e = .returned (.agg v.toArray) ∧ RFl w' v s2 [] ∧ Below w12.heap.size w12 w') ∧ w12.heap[gv]? = some (.cells #[.int .i64 z, .slice A1 k0 a1, .slice B1 k1 b1, .slice C1 k2 c1, .int .i64 cn, .int .i64 wt, .bool dn] 37 (0, 0)) ∧ Below W.heap.size W w12 ∧ Below w9.heap.size w9 w12) := Lib.hid (by
          have hb12 : Below w11.heap.size w11 w12 := hg12
          refine ⟨?_, heap_below M11.out.2.2.1 hb12, bthen M11.out.2.2.2.1 hb12, bthen M11.out.2.2.2.2 hb12⟩
          rw [HK2.out.2]
          exact ref_Load w12 zn (M11.out.1.below hb12) s12 hn hm (Xs := []) (by simp)); have t12 : w12.cell? ⟨gv, 0, none⟩ = some (.int .i64 z) ∧ w12.cell? ⟨gv, 1, none⟩ = some (.slice A1 k0 a1) ∧ w12.cell? ⟨gv, 2, none⟩ = some (.slice B1 k1 b1) ∧ w12.cell? ⟨gv, 3, none⟩ = some (.slice C1 k2 c1) ∧ w12.cell? ⟨gv, 4, none⟩ = some (.int .i64 cn) ∧ w12.cell? ⟨gv, 5, none⟩ = some (.int .i64 wt) ∧ w12.cell? ⟨gv, 6, none⟩ = some (.bool dn) := (let y := M12.out.2.1; ⟨box_cell y 0 _ rfl, box_cell y 1 _ rfl, box_cell y 2 _ rfl, box_cell y 3 _ rfl, box_cell y 4 _ rfl, box_cell y 5 _ rfl, box_cell y 6 _ rfl⟩))
      | (refine app_lit (w := w11.alloc (.cells #[] 5)) EF (by rfl) _ _ (by rfl) (by rfl) (heap_alloc_new _ _) (by rfl) (M11.out.2.1.alloc (.cells #[] 5)) (u8_one _) (by simp only [maxLen]; omega) (by omega) ?_; intro A12 c12 w12 s12 hg12; have M12 : Hid ((Calls Try.prog 42 #[.int .i64 zn, .slice A11 n c11, .slice A12 m c12] w12 fun e w' => ∃ v, e = .returned (.agg v.toArray) ∧ RFl w' v s2 [] ∧ Below w12.heap.size w12 w') ∧ w12.heap[gv]? = some (.cells #[.int .i64 z, .slice A1 k0 a1, .slice B1 k1 b1, .slice C1 k2 c1, .int .i64 cn, .int .i64 wt, .bool dn] 37 (0, 0)) ∧ Below W.heap.size W w12 ∧ Below w9.heap.size w9 w12) := Lib.hid (by
          have hb12 : Below w11.heap.size w11 w12 := bthen ((Below.refl _ w11).alloc (Nat.le_refl _) (.cells #[] 5)) hg12
          refine ⟨?_, heap_below M11.out.2.2.1 hb12, bthen M11.out.2.2.2.1 hb12, bthen M11.out.2.2.2.2 hb12⟩
          rw [HK2.out.2]
          exact ref_Load w12 zn (M11.out.1.below hb12) s12 hn hm (Xs := []) (by simp)); have t12 : w12.cell? ⟨gv, 0, none⟩ = some (.int .i64 z) ∧ w12.cell? ⟨gv, 1, none⟩ = some (.slice A1 k0 a1) ∧ w12.cell? ⟨gv, 2, none⟩ = some (.slice B1 k1 b1) ∧ w12.cell? ⟨gv, 3, none⟩ = some (.slice C1 k2 c1) ∧ w12.cell? ⟨gv, 4, none⟩ = some (.int .i64 cn) ∧ w12.cell? ⟨gv, 5, none⟩ = some (.int .i64 wt) ∧ w12.cell? ⟨gv, 6, none⟩ = some (.bool dn) := (let y := M12.out.2.1; ⟨box_cell y 0 _ rfl, box_cell y 1 _ rfl, box_cell y 2 _ rfl, box_cell y 3 _ rfl, box_cell y 4 _ rfl, box_cell y 5 _ rfl, box_cell y 6 _ rfl⟩))
      | (refine app_lit (w := ((w10.alloc (.cells #[] 5)).alloc (.cells #[] 5))) EF (by rfl) _ _ (by rfl) (by rfl) (by first | exact (heap_below (heap_alloc_new w10 (.cells #[] 5)) ((Below.refl _ (w10.alloc (.cells #[] 5))).alloc (Nat.le_refl _) (.cells #[] 5))) | exact (lit_two w10)) (by rfl) ((M10.out.1.alloc (.cells #[] 5)).alloc (.cells #[] 5)) (u8_one _) (by simp only [maxLen]; omega) (by omega) ?_; intro A11 c11 w11 so11 hg11; have E11 := Lib.hid (And.intro (heap_below (heap_below (heap_alloc_new w10 (.cells #[] 5)) ((Below.refl _ (w10.alloc (.cells #[] 5))).alloc (Nat.le_refl _) (.cells #[] 5))) hg11) (heap_below (lit_two w10) hg11)); have M11 : Hid (Sl w11 1 A11 n c11 ((xa.take n).map by8) ∧ Sl w11 1 (some ⟨gb, 0, none⟩) m cb ((xb.take m).map by8) ∧ w11.heap[gv]? = some (.cells #[.int .i64 z, .slice A1 k0 a1, .slice B1 k1 b1, .slice C1 k2 c1, .int .i64 cn, .int .i64 wt, .bool dn] 37 (0, 0)) ∧ Below W.heap.size W w11 ∧ Below w9.heap.size w9 w11) := Lib.hid (by
          have hb11 : Below w10.heap.size w10 w11 := bthen (bthen ((Below.refl _ w10).alloc (Nat.le_refl _) (.cells #[] 5)) ((Below.refl _ (w10.alloc (.cells #[] 5))).alloc (Nat.le_refl _) (.cells #[] 5))) hg11
          exact ⟨so11, M10.out.2.1.below hb11, heap_below M10.out.2.2.1 hb11, bthen M10.out.2.2.2.1 hb11, bthen M10.out.2.2.2.2 hb11⟩); have t11 : w11.cell? ⟨gv, 0, none⟩ = some (.int .i64 z) ∧ w11.cell? ⟨gv, 1, none⟩ = some (.slice A1 k0 a1) ∧ w11.cell? ⟨gv, 2, none⟩ = some (.slice B1 k1 b1) ∧ w11.cell? ⟨gv, 3, none⟩ = some (.slice C1 k2 c1) ∧ w11.cell? ⟨gv, 4, none⟩ = some (.int .i64 cn) ∧ w11.cell? ⟨gv, 5, none⟩ = some (.int .i64 wt) ∧ w11.cell? ⟨gv, 6, none⟩ = some (.bool dn) := (let y := M11.out.2.2.1; ⟨box_cell y 0 _ rfl, box_cell y 1 _ rfl, box_cell y 2 _ rfl, box_cell y 3 _ rfl, box_cell y 4 _ rfl, box_cell y 5 _ rfl, box_cell y 6 _ rfl⟩))
      | (refine app_lit (w := (w10.alloc (.cells #[] 5))) EF (by rfl) _ _ (by rfl) (by rfl) (heap_alloc_new _ _) (by rfl) (M10.out.1.alloc (.cells #[] 5)) (u8_one _) (by simp only [maxLen]; omega) (by omega) ?_; intro A11 c11 w11 so11 hg11; have M11 : Hid (Sl w11 1 A11 n c11 ((xa.take n).map by8) ∧ Sl w11 1 (some ⟨gb, 0, none⟩) m cb ((xb.take m).map by8) ∧ w11.heap[gv]? = some (.cells #[.int .i64 z, .slice A1 k0 a1, .slice B1 k1 b1, .slice C1 k2 c1, .int .i64 cn, .int .i64 wt, .bool dn] 37 (0, 0)) ∧ Below W.heap.size W w11 ∧ Below w9.heap.size w9 w11) := Lib.hid (by
          have hb11 : Below w10.heap.size w10 w11 := bthen ((Below.refl _ w10).alloc (Nat.le_refl _) (.cells #[] 5)) hg11
          exact ⟨so11, M10.out.2.1.below hb11, heap_below M10.out.2.2.1 hb11, bthen M10.out.2.2.2.1 hb11, bthen M10.out.2.2.2.2 hb11⟩); have t11 : w11.cell? ⟨gv, 0, none⟩ = some (.int .i64 z) ∧ w11.cell? ⟨gv, 1, none⟩ = some (.slice A1 k0 a1) ∧ w11.cell? ⟨gv, 2, none⟩ = some (.slice B1 k1 b1) ∧ w11.cell? ⟨gv, 3, none⟩ = some (.slice C1 k2 c1) ∧ w11.cell? ⟨gv, 4, none⟩ = some (.int .i64 cn) ∧ w11.cell? ⟨gv, 5, none⟩ = some (.int .i64 wt) ∧ w11.cell? ⟨gv, 6, none⟩ = some (.bool dn) := (let y := M11.out.2.2.1; ⟨box_cell y 0 _ rfl, box_cell y 1 _ rfl, box_cell y 2 _ rfl, box_cell y 3 _ rfl, box_cell y 4 _ rfl, box_cell y 5 _ rfl, box_cell y 6 _ rfl⟩))
      | (go_at_call 29; refine L9.out.2.2.2.2.1.mono ?_; rintro e w10 ⟨rfl, hb10⟩; have M10 : Hid (Sl w10 1 (some ⟨ga, 0, none⟩) n ca ((xa.take n).map by8) ∧ Sl w10 1 (some ⟨gb, 0, none⟩) m cb ((xb.take m).map by8) ∧ w10.heap[gv]? = some (.cells #[.int .i64 z, .slice A1 k0 a1, .slice B1 k1 b1, .slice C1 k2 c1, .int .i64 cn, .int .i64 wt, .bool dn] 37 (0, 0)) ∧ Below W.heap.size W w10 ∧ Below w9.heap.size w9 w10) := Lib.hid (by
          have hb910 : Below w9.heap.size w9 w10 := bthen ((Below.refl _ _).drew) hb10
          exact ⟨((own_sl' L9.out.2.2.1).2.1.preB (m := n) (by omega)).below hb910, ((own_sl' L9.out.2.2.2.1).2.1.preB (m := m) (by omega)).below hb910, heap_below L9.out.2.2.2.2.2 hb910, bthen L9.out.2.1.below hb910, hb910⟩); have t10 : w10.cell? ⟨gv, 0, none⟩ = some (.int .i64 z) ∧ w10.cell? ⟨gv, 1, none⟩ = some (.slice A1 k0 a1) ∧ w10.cell? ⟨gv, 2, none⟩ = some (.slice B1 k1 b1) ∧ w10.cell? ⟨gv, 3, none⟩ = some (.slice C1 k2 c1) ∧ w10.cell? ⟨gv, 4, none⟩ = some (.int .i64 cn) ∧ w10.cell? ⟨gv, 5, none⟩ = some (.int .i64 wt) ∧ w10.cell? ⟨gv, 6, none⟩ = some (.bool dn) := (let y := M10.out.2.2.1; ⟨box_cell y 0 _ rfl, box_cell y 1 _ rfl, box_cell y 2 _ rfl, box_cell y 3 _ rfl, box_cell y 4 _ rfl, box_cell y 5 _ rfl, box_cell y 6 _ rfl⟩)))
  all_goals
    have HX14 : Hid (ExI W w14 p gv (V7.mk z k0 k1 k2 cn wt a1 b1 c1 A1 B1 C1 dn).l s0 ∧ FOkN 0 s0) := Lib.hid (by
      refine ⟨?_, ?_⟩
      · have h1 := L9.out.2.1.then_ (bthen (bthen M12.out.2.2.2 hb13) hb14)
        obtain ⟨e0, e1, e2, e3, e4, e5, e6⟩ := HE.out
        simp only [e0, e1, e2, e3, e4, e5, e6]
        exact h1
      · rw [HK.out.2]
        exact ⟨capF_le zn, by simp; omega, by simp; omega, Nat.le_refl _, Nat.le_refl _, by simp, by simp⟩)
    clear M10 M11 M12 M13 M14 t10 t11 t12 t13 t14 L9 HE HK HK2 hb13 hb14 c7 L4 hb10 hg11 so11 hg12 s12 r13 HNE HW3 HGA HB2 iq1 iq2 hcam hcbm
    go_wp2_with (first | (at_builtin; refine Stopped.out ?_) | (at_make; refine Stopped.out ?_))
    go_loopw [14] (fun i wr => ∃ (j : Nat) (s : FSt) (u : V7), j ≤ q ∧ i = .int .i64 j ∧ ExI W wr p gv u.l s ∧ FOkN j s) (fun i _ => q - (intOf i).toNat)
    case atStart => exact ⟨0, _, _, Nat.zero_le _, rfl, HX14.out.1, HX14.out.2⟩
    case round =>
      clear HX14
      obtain ⟨j, s, u, hj, rfl, hI, hok⟩ := hrel
      by_cases hlt : j < q
      · obtain ⟨bs, off, rfl⟩ := hs.sl.form (by omega)
        have hjl : j < ss.length := by rw [HLs.out.1]; exact hlt
        obtain ⟨ba, bn, bc, b0, b1, b2, b3, b4, sbW, _, _⟩ := hs.get j hjl
        have c0 := cell_below b0 hI.below
        have c1' := cell_below b1 hI.below
        have c2 := cell_below b2 hI.below
        have c3 := cell_below b3 hI.below
        have c4 := cell_below b4 hI.below
        have hbn : bn ≤ 2097152 := by have h1 := size12_get ss j hjl; have h2 := HZ.out; have h3 : ss[j].b.length = bn := by simpa using sbW.len
                                      omega
        have hdw : 0 < bn → ∀ ad, ba = some ad → ad.block < W.heap.size := fun h0 ad e => by have h3 := sbW.len; have h4 := cell_lt ((sbW.at_ ad e (by rw [h3]; omega)).2 0 (by rw [h3]; omega)); exact h4
        have k0 : (0 : Int) ≤ (j : Int) := Int.natCast_nonneg _
        have k1 : (j : Int) < (q : Int) := by omega
        generalize ss[j] = t at b0 b1 b2 b3 b4 c0 c1' c2 c3 c4 sbW
        have HC := Lib.hid (And.intro b0 (And.intro b1 (And.intro b2 (And.intro b3 b4))))
        have hZb : Below wr.heap.size wr (wr.alloc (.cells #[.int .i64 0, .slice none 0 0, .slice none 0 0, .slice none 0 0, .int .i64 0, .int .i64 0, .bool false] 37)).drew := ((Below.refl _ _).alloc (Nat.le_refl _) _).drew
        have HBo := Lib.hid (hI.bothX hZb (x := wr.heap.size) (zs := [.int .i64 0, .slice none 0 0, .slice none 0 0, .slice none 0 0, .int .i64 0, .int .i64 0, .bool false]) (heap_alloc_new wr _) (Nat.le_refl _) (hok.ok (by omega)) t ((sbW.below hI.below).below hZb) hbn hdw)
        have HBo2 := Lib.hid ((hI.then_ ((Below.refl _ wr).drew)).both7 (hok.ok (by omega)) t ((sbW.below hI.below).drew) hbn hdw)
        have HOk := Lib.hid (doesF_ok hok t).1
        generalize (doesF s t).1 = s2 at HBo HBo2 HOk
        have y7 := hI.blk
        have t5 : (wr.cell? ⟨gv, 0, none⟩ = some (.int .i64 u.z) ∧ wr.cell? ⟨gv, 1, none⟩ = some (.slice u.A u.k0 u.a) ∧ wr.cell? ⟨gv, 2, none⟩ = some (.slice u.B u.k1 u.b) ∧ wr.cell? ⟨gv, 3, none⟩ = some (.slice u.C u.k2 u.c) ∧ wr.cell? ⟨gv, 4, none⟩ = some (.int .i64 u.cn) ∧ wr.cell? ⟨gv, 5, none⟩ = some (.int .i64 u.wt) ∧ wr.cell? ⟨gv, 6, none⟩ = some (.bool u.dn)) ∧ wr.cell? ⟨bs, off + j * 5, none⟩ = some (.int .i64 t.kd) ∧ wr.cell? ⟨bs, off + j * 5 + 1, none⟩ = some (.int .i64 t.bank) ∧ wr.cell? ⟨bs, off + j * 5 + 2, none⟩ = some (.slice ba bn bc) ∧ wr.cell? ⟨bs, off + j * 5 + 3, none⟩ = some (.int .i64 t.x) ∧ wr.cell? ⟨bs, off + j * 5 + 4, none⟩ = some (.int .i64 t.y) := ⟨⟨box_cell y7 0 _ rfl, box_cell y7 1 _ rfl, box_cell y7 2 _ rfl, box_cell y7 3 _ rfl, box_cell y7 4 _ rfl, box_cell y7 5 _ rfl, box_cell y7 6 _ rfl⟩, c0, c1', c2, c3, c4⟩
        clear b0 b1 b2 b3 b4 y7 hI hok hZb c0 c1' c2 c3 c4
        go_wp2_with (first | (at_builtin; refine Stopped.out ?_) | (at_make; refine Stopped.out ?_))
        go_region_held3 (fun w' => (w'.cell? ⟨gv, 0, none⟩ = some (.int .i64 u.z) ∧ w'.cell? ⟨gv, 1, none⟩ = some (.slice u.A u.k0 u.a) ∧ w'.cell? ⟨gv, 2, none⟩ = some (.slice u.B u.k1 u.b) ∧ w'.cell? ⟨gv, 3, none⟩ = some (.slice u.C u.k2 u.c) ∧ w'.cell? ⟨gv, 4, none⟩ = some (.int .i64 u.cn) ∧ w'.cell? ⟨gv, 5, none⟩ = some (.int .i64 u.wt) ∧ w'.cell? ⟨gv, 6, none⟩ = some (.bool u.dn)) ∧ w'.cell? ⟨bs, off + j * 5, none⟩ = some (.int .i64 t.kd) ∧ w'.cell? ⟨bs, off + j * 5 + 1, none⟩ = some (.int .i64 t.bank) ∧ w'.cell? ⟨bs, off + j * 5 + 2, none⟩ = some (.slice ba bn bc) ∧ w'.cell? ⟨bs, off + j * 5 + 3, none⟩ = some (.int .i64 t.x) ∧ w'.cell? ⟨bs, off + j * 5 + 4, none⟩ = some (.int .i64 t.y))
          (first | with_reducible exact t6 | with_reducible exact t5 | exact t7 _ (set7 (.int .i64 u2.z) (.slice u2.A u2.k0 u2.a) (.slice u2.B u2.k1 u2.b) (.slice u2.C u2.k2 u2.c) (.int .i64 u2.cn) (.int .i64 u2.wt) (.bool u2.dn) HBB.out.xbk).2 | exact t7 _ ((Below.refl _ _).alloc (Nat.le_refl _) _) | go_keep)
          (first | (go_at_call 43; refine HBo.out.mono ?_; rintro e w15 ⟨u2, rfl, hB⟩; have HBB := Lib.hid hB; have t7 : ∀ w', Keep [wr.heap.size] w15 w' → (w'.cell? ⟨gv, 0, none⟩ = some (.int .i64 u.z) ∧ w'.cell? ⟨gv, 1, none⟩ = some (.slice u.A u.k0 u.a) ∧ w'.cell? ⟨gv, 2, none⟩ = some (.slice u.B u.k1 u.b) ∧ w'.cell? ⟨gv, 3, none⟩ = some (.slice u.C u.k2 u.c) ∧ w'.cell? ⟨gv, 4, none⟩ = some (.int .i64 u.cn) ∧ w'.cell? ⟨gv, 5, none⟩ = some (.int .i64 u.wt) ∧ w'.cell? ⟨gv, 6, none⟩ = some (.bool u.dn)) ∧ w'.cell? ⟨bs, off + j * 5, none⟩ = some (.int .i64 t.kd) ∧ w'.cell? ⟨bs, off + j * 5 + 1, none⟩ = some (.int .i64 t.bank) ∧ w'.cell? ⟨bs, off + j * 5 + 2, none⟩ = some (.slice ba bn bc) ∧ w'.cell? ⟨bs, off + j * 5 + 3, none⟩ = some (.int .i64 t.x) ∧ w'.cell? ⟨bs, off + j * 5 + 4, none⟩ = some (.int .i64 t.y) := (fun w' kk => by
              have y7 := kk.heap hB.blk (by simp; exact hB.ne)
              have yb := kk.below hB.below hB.below.size (fun y hx => by simp at hx; subst hx; exact hB.xl)
              exact ⟨⟨box_cell y7 0 _ rfl, box_cell y7 1 _ rfl, box_cell y7 2 _ rfl, box_cell y7 3 _ rfl, box_cell y7 4 _ rfl, box_cell y7 5 _ rfl, box_cell y7 6 _ rfl⟩, cell_below HC.out.1 yb, cell_below HC.out.2.1 yb, cell_below HC.out.2.2.1 yb, cell_below HC.out.2.2.2.1 yb, cell_below HC.out.2.2.2.2 yb⟩); have t6 := t7 w15 (Keep.refl _ _); have xb := hB.xbk; have x0 := box_cell xb 0 _ rfl; have x1 := box_cell xb 1 _ rfl; have x2 := box_cell xb 2 _ rfl; have x3 := box_cell xb 3 _ rfl; have x4 := box_cell xb 4 _ rfl; have x5 := box_cell xb 5 _ rfl; have x6 := box_cell xb 6 _ rfl; have z0 := box_free xb 0; have z1 := box_free xb 1; have z2 := box_free xb 2; have z3 := box_free xb 3; have z4 := box_free xb 4; have z5 := box_free xb 5; have z6 := box_free xb 6; clear xb hB)
                  | (go_at_call 43; refine HBo2.out.mono ?_; rintro e w15 ⟨u2, rfl, hB⟩; have HBB := Lib.hid hB; have t7 : ∀ w', Below w15.heap.size w15 w' → (w'.cell? ⟨gv, 0, none⟩ = some (.int .i64 u.z) ∧ w'.cell? ⟨gv, 1, none⟩ = some (.slice u.A u.k0 u.a) ∧ w'.cell? ⟨gv, 2, none⟩ = some (.slice u.B u.k1 u.b) ∧ w'.cell? ⟨gv, 3, none⟩ = some (.slice u.C u.k2 u.c) ∧ w'.cell? ⟨gv, 4, none⟩ = some (.int .i64 u.cn) ∧ w'.cell? ⟨gv, 5, none⟩ = some (.int .i64 u.wt) ∧ w'.cell? ⟨gv, 6, none⟩ = some (.bool u.dn)) ∧ w'.cell? ⟨bs, off + j * 5, none⟩ = some (.int .i64 t.kd) ∧ w'.cell? ⟨bs, off + j * 5 + 1, none⟩ = some (.int .i64 t.bank) ∧ w'.cell? ⟨bs, off + j * 5 + 2, none⟩ = some (.slice ba bn bc) ∧ w'.cell? ⟨bs, off + j * 5 + 3, none⟩ = some (.int .i64 t.x) ∧ w'.cell? ⟨bs, off + j * 5 + 4, none⟩ = some (.int .i64 t.y) := (fun w' kk => by
                      have y7 := heap_below hB.blk kk
                      have yb := bthen hB.below kk
                      exact ⟨⟨box_cell y7 0 _ rfl, box_cell y7 1 _ rfl, box_cell y7 2 _ rfl, box_cell y7 3 _ rfl, box_cell y7 4 _ rfl, box_cell y7 5 _ rfl, box_cell y7 6 _ rfl⟩, cell_below HC.out.1 yb, cell_below HC.out.2.1 yb, cell_below HC.out.2.2.1 yb, cell_below HC.out.2.2.2.1 yb, cell_below HC.out.2.2.2.2 yb⟩); have t6 := t7 w15 (Below.refl _ _); clear hB))
        -- BEHIND15
        all_goals clear t7 t6 HBo HBo2 HC
        all_goals first
          | (have HCC := HBB.out.put (zs' := u2.l) (set7 (.int .i64 u2.z) (.slice u2.A u2.k0 u2.a) (.slice u2.B u2.k1 u2.b) (.slice u2.C u2.k2 u2.c) (.int .i64 u2.cn) (.int .i64 u2.wt) (.bool u2.dn) HBB.out.xbk).2 (set7 (.int .i64 u2.z) (.slice u2.A u2.k0 u2.a) (.slice u2.B u2.k1 u2.b) (.slice u2.C u2.k2 u2.c) (.int .i64 u2.cn) (.int .i64 u2.wt) (.bool u2.dn) HBB.out.xbk).1
             obtain ⟨w16, hw16⟩ : ∃ w, w = (((((((w15.setCell ⟨wr.heap.size, 0, none⟩ (.int .i64 u2.z)).setCell ⟨wr.heap.size, 1, none⟩ (.slice u2.A u2.k0 u2.a)).setCell ⟨wr.heap.size, 2, none⟩ (.slice u2.B u2.k1 u2.b)).setCell ⟨wr.heap.size, 3, none⟩ (.slice u2.C u2.k2 u2.c)).setCell ⟨wr.heap.size, 4, none⟩ (.int .i64 u2.cn)).setCell ⟨wr.heap.size, 5, none⟩ (.int .i64 u2.wt)).setCell ⟨wr.heap.size, 6, none⟩ (.bool u2.dn)) := ⟨_, rfl⟩
             obtain ⟨x, hx⟩ : ∃ x, x = wr.heap.size := ⟨_, rfl⟩
             rw [← hw16, ← hx] at HCC
             rw [← hw16, ← hx]
             clear hw16 hx
             try clear x0 x1 x2 x3 x4 x5 x6 z0 z1 z2 z3 z4 z5 z6)
          | (have HCC := HBB.out.toC u2.l
             obtain ⟨w16, hw16⟩ : ∃ w, w = w15.alloc (.cells #[.int .i64 u2.z, .slice u2.A u2.k0 u2.a, .slice u2.B u2.k1 u2.b, .slice u2.C u2.k2 u2.c, .int .i64 u2.cn, .int .i64 u2.wt, .bool u2.dn] 37) := ⟨_, rfl⟩
             obtain ⟨x, hx⟩ : ∃ x, x = w15.heap.size := ⟨_, rfl⟩
             rw [show w15.alloc (.cells u2.l.toArray 37) = w16 from hw16.symm, ← hx] at HCC
             rw [← hw16, ← hx]
             clear hw16 hx)
        all_goals
          clear HBB
          have xb := HCC.xbk
          have gb := HCC.blk
          have xr0 : w16.cell? ⟨x, 0, none⟩ = some (.int .i64 u2.z) := box_cell xb 0 _ rfl
          have xr1 : w16.cell? ⟨x, 1, none⟩ = some (.slice u2.A u2.k0 u2.a) := box_cell xb 1 _ rfl
          have xr2 : w16.cell? ⟨x, 2, none⟩ = some (.slice u2.B u2.k1 u2.b) := box_cell xb 2 _ rfl
          have xr3 : w16.cell? ⟨x, 3, none⟩ = some (.slice u2.C u2.k2 u2.c) := box_cell xb 3 _ rfl
          have xr4 : w16.cell? ⟨x, 4, none⟩ = some (.int .i64 u2.cn) := box_cell xb 4 _ rfl
          have xr5 : w16.cell? ⟨x, 5, none⟩ = some (.int .i64 u2.wt) := box_cell xb 5 _ rfl
          have xr6 : w16.cell? ⟨x, 6, none⟩ = some (.bool u2.dn) := box_cell xb 6 _ rfl
          have xg0 : w16.cell? ⟨gv, 0, none⟩ = some (.int .i64 u.z) := box_cell gb 0 _ rfl
          have xg1 : w16.cell? ⟨gv, 1, none⟩ = some (.slice u.A u.k0 u.a) := box_cell gb 1 _ rfl
          have xg2 : w16.cell? ⟨gv, 2, none⟩ = some (.slice u.B u.k1 u.b) := box_cell gb 2 _ rfl
          have xg3 : w16.cell? ⟨gv, 3, none⟩ = some (.slice u.C u.k2 u.c) := box_cell gb 3 _ rfl
          have xg4 : w16.cell? ⟨gv, 4, none⟩ = some (.int .i64 u.cn) := box_cell gb 4 _ rfl
          have xg5 : w16.cell? ⟨gv, 5, none⟩ = some (.int .i64 u.wt) := box_cell gb 5 _ rfl
          have xg6 : w16.cell? ⟨gv, 6, none⟩ = some (.bool u.dn) := box_cell gb 6 _ rfl
          have xz0 := box_free gb 0
          have xz1 := box_free gb 1
          have xz2 := box_free gb 2
          have xz3 := box_free gb 3
          have xz4 := box_free gb 4
          have xz5 := box_free gb 5
          have xz6 := box_free gb 6
          have HCD := Lib.hid HCC
          clear xb gb HCC
          go_wp2_with (first | (at_builtin; refine Stopped.out ?_) | (at_make; refine Stopped.out ?_))
          clear xr0 xr1 xr2 xr3 xr4 xr5 xr6 xg0 xg1 xg2 xg3 xg4 xg5 xg6 xz0 xz1 xz2 xz3 xz4 xz5 xz6
          have s7 := set7 (w := w16) (.int .i64 u2.z) (.slice u2.A u2.k0 u2.a) (.slice u2.B u2.k1 u2.b) (.slice u2.C u2.k2 u2.c) (.int .i64 u2.cn) (.int .i64 u2.wt) (.bool u2.dn) HCD.out.blk
          have hI2 := HCD.out.fin s7.2 s7.1
          refine (hI2.told7 (HOk.out.ok (by omega))).mono ?_
          rintro e w18 ⟨rfl, hb18⟩
          have HIJ := Lib.hid (hI2.then_ hb18)
          clear s7 hI2 hb18 HCD
          go_wp2
          first | go_roundw | refine ⟨?rel, ?measure⟩
          case rel => exact ⟨j + 1, s2, u2, by omega, by go_num, HIJ.out, HOk.out⟩
          case measure => simp [intOf]; omega
      · have HB := Lib.hid hI.below
        have HKQ := Lib.hid (show j = q by omega)
        have k1 : decide ((j : Int) < (q : Int)) = false := decide_eq_false (by omega)
        clear hI
        go_wp2
        go_ret
        exact ⟨by simp, HB.out⟩
end Go.Proofs.Ytpjmbhhfpoamnaa
