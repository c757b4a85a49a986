import Derived.Test.YtpjmbhhfpoamnaaJn27b
import Derived.Test.YtpjmbhhfpoamnaaJn26a
import Derived.Test.YtpjmbhhfpoamnaaOps14
import Derived.Deep.CutRange
set_option linter.unusedVariables false
set_option linter.unusedSimpArgs false
namespace Go.Proofs.Ytpjmbhhfpoamnaa
open Go.RowKit
/-- in the search of what was found: the box (B12) of what the journal holds -/
structure InI (w9 wx : World) (p8 : Nat → Prop) (B12 i : Nat) (fb : Bool) (hl : List Hd) (h' : Hd) : Prop where
  out : ∃ (E : Option Addr) (e0 e1 : Nat) (F : Option Addr) (f0 f1 : Nat), wx.heap[B12]? = some (.cells #[.slice E e0 e1, .slice F f0 f1] 106 (0, 0)) ∧ Keep [B12] w9 wx ∧ (fb = false → ∀ i' x, i' < i → hl[i']? = some x → x ≠ h') ∧ (fb = true → HIn w9 p8 (.slice E e0 e1) (.slice F f0 f1) h')
/-- between two rounds: the journal, what it holds, and the boxes of what was found (B10) and of what it holds (B12) -/
structure KpI (W wr : World) (p B10 B12 q a k : Nat) : Prop where
  out : ∃ (G : List Nat) (j : JSt) (s : FSt) (h : Hd) (v0 v1 : Value) (re : Int) (RA : Option Addr) (ra rb : Nat) (RB : Option Addr) (rc rd : Nat) (ru : Int) (N : Nat),
    Fl wr p G s ∧ Jo wr q p j ∧ q ∉ G ∧ (∀ x ∈ q :: G, W.heap.size ≤ x) ∧ Below W.heap.size W wr ∧ JI 0 j s h ∧ s.armed.length ≤ a ∧ FOkN N s ∧ N + 3 * s.armed.length ≤ 10 * k + 20 ∧
    wr.heap[B12]? = some (.cells #[v0, v1] 106 (0, 0)) ∧ wr.heap[B10]? = some (.cells #[.int .i64 re, .slice RA ra rb, .slice RB rc rd, .int .i64 ru] 100 (0, 0)) ∧
    (∀ x ∈ [B10, B12], x ∉ q :: G ∧ x < wr.heap.size) ∧ HIn wr (Pn wr q G [B10, B12]) v0 v1 h
set_option maxRecDepth 100000 in
set_option maxHeartbeats 0 in
theorem JournalKeeps_walk (W : World) (z : Int) {A : Option Addr} {n c : Nat} {l : List UInt8} (hs : Sl W 1 A n c (l.map by8)) (hn : n ≤ 140737488351232) {B : Option Addr} {m d : Nat} {vs : List Value} {ss : List Op14} (hO : Ops14 W B m d vs ss) (hm : m ≤ 1954687338213) :
    Calls Try.prog 18 #[.int .i64 z, .slice A n c, .slice B m d] W fun e w' => e = .returned (.bool true) ∧ Below W.heap.size W w' := by
  go_enter Try.func18, Try.ntmps18
  go_wp2_with fail
  refine (flash_New _ z).mono ?_
  rintro e w1 ⟨G, rfl, f1, hb1, hG⟩
  have HF := Lib.hid (And.intro f1 (And.intro hb1 hG))
  clear f1 hb1 hG
  go_wp2_with fail
  refine (Format_any w1 HF.out.1 ((FOkN.new z).more (Nat.zero_le 1)) (by omega) (hs.below HF.out.2.1) hn).mono ?_
  rintro e w3 ⟨rfl, k3⟩
  rcases fmtF_new z l with ⟨E, e3, h3, _⟩ | ⟨st, e3, ha3, J3, hb3, hok3, hsz3⟩
  · rw [e3] at k3 ⊢
    have hbW := k3.keep.below HF.out.2.1 HF.out.2.1.size HF.out.2.2
    have q1 : ((E : Int) != 0) = true := by simp; omega
    have H3 := Lib.hid hbW
    clear k3 hbW h3 e3
    go_wp2_with fail
    refine (works_any _).mono ?_
    rintro e w5 ⟨rfl, k5⟩
    go_wp2_with fail
    go_ret
    exact ⟨rfl, bthen H3.out k5⟩
  rw [e3] at k3 ⊢
  obtain ⟨G3, f3, k3, g3⟩ := k3.out
  have hbW := k3.below HF.out.2.1 HF.out.2.1.size HF.out.2.2
  have hlo3 : ∀ x ∈ G3, W.heap.size ≤ x := fun x hx => by
    rcases g3 x hx with h | h
    · exact HF.out.2.2 x h
    · have := HF.out.2.1.size; omega
  have H3 := Lib.hid (And.intro f3 (And.intro hbW (And.intro hlo3 (And.intro J3 (And.intro hb3 (And.intro hok3 ha3))))))
  clear f3 k3 g3 hbW hlo3 J3 hb3 hok3 hsz3 ha3 e3
  go_wp2_with fail
  refine (Open_again w3 H3.out.1 H3.out.2.2.2.2.2.1 (by omega) H3.out.2.2.2.1 H3.out.2.2.2.2.1).mono ?_
  rintro e w4 ⟨q, G4, v0, v1, rfl, O4⟩
  obtain ⟨RA, ra, rb, RB, rc, rd, vs2, rfl, rfl, -⟩ := O4.hin.out
  have hJ4 := O4.jw H3.out.2.1 H3.out.2.2.1
  have hq4 : q < w4.heap.size := (Array.getElem?_eq_some_iff.1 O4.jo).1
  have H4 := Lib.hid (And.intro hJ4 (And.intro O4.hin (And.intro hq4 O4.fl.lts)))
  clear O4 hJ4 hq4
  go_upto_region 9 with fail
  obtain ⟨wa, hwa⟩ : ∃ x, x = w4.alloc (.cells #[.int .i64 1, .slice RA ra rb, .slice RB rc rd, .int .i64 0] 100) := ⟨_, rfl⟩
  have za : wa.heap.size = w4.heap.size + 1 := by rw [hwa]; simp
  obtain ⟨wb, hwb⟩ : ∃ x, x = wa.alloc (.cells #[.slice A n c, .slice none 0 0] 106) := ⟨_, rfl⟩
  have zb : wb.heap.size = w4.heap.size + 1 + 1 := by rw [hwb]; simp [za]
  have bb : Below w4.heap.size w4 wb := by rw [hwb, hwa]; exact ((Below.refl _ _).alloc (Nat.le_refl _) _).alloc (by simp) _
  have xa : wb.heap[w4.heap.size]? = some (.cells #[.int .i64 1, .slice RA ra rb, .slice RB rc rd, .int .i64 0] 100 (0, 0)) := by rw [hwb, hwa]; exact heap_new1 _ _ _
  have xb : wb.heap[w4.heap.size + 1]? = some (.cells #[.slice A n c, .slice none 0 0] 106 (0, 0)) := by rw [hwb, hwa]; exact heap_new2 _ _ _
  rw [← hwa, ← hwb]
  have o0 : wb.cell? ⟨w4.heap.size, 0, none⟩ = some (.int .i64 1) := box_cell xa 0 _ rfl
  have o1 : wb.cell? ⟨w4.heap.size, 1, none⟩ = some (.slice RA ra rb) := box_cell xa 1 _ rfl
  have o2 : wb.cell? ⟨w4.heap.size, 2, none⟩ = some (.slice RB rc rd) := box_cell xa 2 _ rfl
  have o3 : wb.cell? ⟨w4.heap.size, 3, none⟩ = some (.int .i64 0) := box_cell xa 3 _ rfl
  have p0 : wb.cell? ⟨(w4.heap.size+1), 0, none⟩ = some (.slice A n c) := box_cell xb 0 _ rfl
  have p1 : wb.cell? ⟨(w4.heap.size+1), 1, none⟩ = some (.slice none 0 0) := box_cell xb 1 _ rfl
  have hIs := is_any wb (HIn.nil (P := fun _ => True) (hs.below (bthen H4.out.1.b bb)) (fun _ _ _ => trivial)) (H4.out.2.1.below bb) 1 0
  rw [show decide ((⟨l, []⟩ : Hd).snap = (⟨l, []⟩ : Hd).snap ∧ (⟨l, []⟩ : Hd).recs = (⟨l, []⟩ : Hd).recs) = true from decide_eq_true ⟨rfl, rfl⟩] at hIs
  have HB := Lib.hid (And.intro xa (And.intro xb (And.intro bb zb)))
  clear hwa hwb za zb bb xa xb
  go_wp2_with fail
  refine hIs.mono ?_
  rintro e w5 ⟨rfl, k5⟩
  have hR : KpI W w5 W.heap.size w4.heap.size (w4.heap.size + 1) q 0 0 := by
    have hJ := H4.out.1.below (bthen HB.out.2.2.1 k5)
    have hz := HB.out.2.2.2
    have hk := k5.size
    refine ⟨G4, _, st, ⟨l, []⟩, _, _, 1, RA, ra, rb, RB, rc, rd, 0, 1, hJ.fl, hJ.jo, hJ.qG, hJ.lo, hJ.b, H3.out.2.2.2.1, by rw [H3.out.2.2.2.2.2.2]; simp, H3.out.2.2.2.2.2.1, by rw [H3.out.2.2.2.2.2.2]; simp, heap_below HB.out.2.1 k5, heap_below HB.out.1 k5, fun x hx => ?_, (HIn.nil (hs.below (bthen H4.out.1.b (bthen HB.out.2.2.1 k5))) (fun ad e hz0 => ?_))⟩
    · have h1 := H4.out.2.2.1
      rcases List.mem_cons.1 hx with rfl | hx
      · exact ⟨fun hm => by rcases List.mem_cons.1 hm with e | e; omega; have := H4.out.2.2.2 _ e; omega, by omega⟩
      · rw [List.mem_singleton.1 hx]
        exact ⟨fun hm => by rcases List.mem_cons.1 hm with e | e; omega; have := H4.out.2.2.2 _ e; omega, by omega⟩
    · have h1 := hs.lt (by decide) ad e hz0
      have h2 := H4.out.1.b.size
      exact ⟨by omega, fun hm => by have := hJ.lo _ hm; omega, fun hm => by simp at hm; omega⟩
  have HW4 : Hid (W.heap.size ≤ w4.heap.size) := Lib.hid H4.out.1.b.size
  clear k5 hIs H4 HB H3 o0 o1 o2 o3 p0 p1
  have n1 := hO.sl.le; have n2 := hO.sl.max
  have hln := hO.len
  go_wp2_with fail
  go_loopw [9, 13, 14] (fun jv av iv wr => ∃ q a k : Nat, k ≤ m ∧ a ≤ k ∧ jv = .pointer (some ⟨q, 0, none⟩) ∧ av = .int .i64 (a : Nat) ∧ iv = .int .i64 (k : Nat) ∧ Hid (KpI W wr W.heap.size w4.heap.size (w4.heap.size + 1) q a k)) (fun _ _ iv _ => m - (intOf iv).toNat)
  case atStart => exact ⟨q, 0, 0, by omega, by omega, rfl, rfl, rfl, Lib.hid hR⟩
  case round =>
    clear hR
    obtain ⟨q, a, k, hk, hak, rfl, rfl, rfl, HI⟩ := hrel
    obtain ⟨G, j, s, h, v0, v1, re, RA, ra, rb, RB, rc, rd, ru, N, fF, fJ, hqG, hlo, hb, J, har, hok, hNk, x12, x10, hL, hin⟩ := HI.out.out
    by_cases hlt : k < m
    · have hk0 : (0 : Int) ≤ (k : Int) := Int.natCast_nonneg _
      have hk1 : (k : Int) < (m : Int) := by omega
      obtain ⟨b, off, rfl⟩ := hO.sl.form (by omega)
      obtain ⟨da, dn, dc, sa, sn, sc, g0, g1, g2, g3, g4, dW, dm, sW, sm⟩ := hO.get k (by omega)
      obtain ⟨o, ho⟩ : ∃ o, o = ss[k]'(by omega) := ⟨_, rfl⟩
      rw [← ho] at g0 g3 g4 dW sW
      have g0 := cell_below g0 hb; have g1 := cell_below g1 hb; have g2 := cell_below g2 hb; have g3 := cell_below g3 hb; have g4 := cell_below g4 hb
      obtain ⟨od, hod⟩ : ∃ x, x = o.data := ⟨_, rfl⟩
      obtain ⟨os, hos⟩ : ∃ x, x = o.snap := ⟨_, rfl⟩
      obtain ⟨kd, hkd⟩ : ∃ x, x = o.kd := ⟨_, rfl⟩
      obtain ⟨af, haf⟩ : ∃ x, x = o.after := ⟨_, rfl⟩
      obtain ⟨kp, hkp⟩ : ∃ x, x = o.keep := ⟨_, rfl⟩
      rw [← hod] at dW; rw [← hos] at sW; rw [← hkd] at g0; rw [← haf] at g3; rw [← hkp] at g4
      obtain ⟨a0, a1, a2, c0, c1, c2, us, rfl, rfl, -⟩ := hin.out
      obtain ⟨w6, hw6⟩ : ∃ x, x = wr.alloc (.cells #[.int .i64 kd, .slice da dn dc, .slice sa sn sc, .int .i64 af, .int .i64 kp] 97) := ⟨_, rfl⟩
      have b6 : Below wr.heap.size wr w6 := by rw [hw6]; exact (Below.refl _ _).alloc (Nat.le_refl _) _
      have x6 : w6.heap[wr.heap.size]? = some (.cells #[.int .i64 kd, .slice da dn dc, .slice sa sn sc, .int .i64 af, .int .i64 kp] 97 (0, 0)) := by rw [hw6]; exact heap_alloc_new _ _
      have x12' := heap_below x12 b6
      have hL6 : ∀ x ∈ [w4.heap.size, w4.heap.size + 1], x < w6.heap.size := fun x hx => Nat.lt_of_lt_of_le (hL x hx).2 b6.size
      have hPn : ∀ ad : Addr, ad.block < W.heap.size → Pn w6 q G [w4.heap.size, w4.heap.size + 1] ad.block := fun ad hx => by
        have h1 := (bthen hb b6).size
        have h2 := HW4.out
        exact ⟨by omega, fun hm => by have := hlo _ hm; omega, fun hm => by simp at hm; omega⟩
      have bW6 := bthen hb b6
      have HGw : Hid (wr.heap.size ∉ q :: G ∧ wr.heap.size < w6.heap.size) := Lib.hid ⟨fun hm => by
        rcases List.mem_cons.1 hm with e | e
        · have h1 : q < wr.heap.size := (Array.getElem?_eq_some_iff.1 fJ).1; omega
        · have h1 := fF.lts _ e; omega, (Array.getElem?_eq_some_iff.1 x6).1⟩
      have HFl := Lib.hid (And.intro (fF.below b6) (And.intro (fJ.below b6) (And.intro hqG (And.intro hlo (And.intro bW6 (And.intro J (And.intro har (And.intro hok hNk))))))))
      have HBx := Lib.hid (And.intro x12' (And.intro (heap_below x10 b6) (And.intro hL (And.intro hL6 (hin.pbelow b6)))))
      have HDt := Lib.hid (And.intro (dW.below bW6) (And.intro dm (And.intro (fun ad e hz => hPn ad (dW.lt (by decide) ad e hz)) (And.intro (sW.below bW6) (And.intro sm (fun ad e hz => hPn ad (sW.lt (by decide) ad e hz)))))))
      clear HI fF fJ hqG hlo hb J har hok hNk x12 x10 hL hin hPn dW sW dm sm ho hod hos hkd haf hkp hL6 bW6 b6
      go_upto_region 16 with fail
      rw [← hw6]
      clear hw6 g0 g1 g2 g3 g4
      have p0 : w6.cell? ⟨wr.heap.size, 0, none⟩ = some (.int .i64 kd) := box_cell x6 0 _ rfl
      have p1 : w6.cell? ⟨wr.heap.size, 1, none⟩ = some (.slice da dn dc) := box_cell x6 1 _ rfl
      have p2 : w6.cell? ⟨wr.heap.size, 2, none⟩ = some (.slice sa sn sc) := box_cell x6 2 _ rfl
      have p3 : w6.cell? ⟨wr.heap.size, 3, none⟩ = some (.int .i64 af) := box_cell x6 3 _ rfl
      have p4 : w6.cell? ⟨wr.heap.size, 4, none⟩ = some (.int .i64 kp) := box_cell x6 4 _ rfl
      have o0 : w6.cell? ⟨(w4.heap.size+1), 0, none⟩ = some (.slice a0 a1 a2) := box_cell x12' 0 _ rfl
      have o1 : w6.cell? ⟨(w4.heap.size+1), 1, none⟩ = some (.slice c0 c1 c2) := box_cell x12' 1 _ rfl
      clear x6 x12'
      by_cases kd7 : kd = 7
      · subst kd7
        have hak2 : a ≤ 1954687338213 := by omega
        have HAr := Lib.hid (flash_Arm w6 HFl.out.1 af kp)
        clear o0 o1 p1 p2
        go_wp2_with fail
        refine HAr.out.mono ?_
        rintro e w7 ⟨rfl, k7⟩
        have hNew : KpI W w7 W.heap.size w4.heap.size (w4.heap.size + 1) q (a + 1) (k + 1) := by
          have kk := k7.keep
          obtain ⟨G7, f7, _, o7⟩ := k7.out
          obtain ⟨fF, fJ, hqG, hlo, hb, J, har, hok, hNk⟩ := HFl.out
          obtain ⟨r1, r2, r3, r4, r5, r6⟩ := armF_ok hok af kp
          have hq6 : q < w6.heap.size := (Array.getElem?_eq_some_iff.1 fJ).1
          have hbz := hb.size
          have oo : ∀ x, x ∉ q :: G → x < w6.heap.size → x ∉ q :: G7 := fun x hx hx2 hm => by
            rcases List.mem_cons.1 hm with e | e
            · exact hx (by simp [e])
            · rcases o7 x e with e2 | e2
              · exact hx (List.mem_cons_of_mem _ e2)
              · omega
          have ng : ∀ x ∈ [w4.heap.size, w4.heap.size + 1], x ∉ G := fun x hx hm => (HBx.out.2.2.1 x hx).1 (List.mem_cons_of_mem _ hm)
          refine ⟨G7, j, _, h, _, _, re, RA, ra, rb, RB, rc, rd, ru, N, f7, fJ.keep kk hqG, fun hx => ?_, fun x hx => ?_, kk.below hb hbz (fun x hx => hlo x (List.mem_cons_of_mem _ hx)), J.same r2 r3 (by omega) (r4.trans J.down), by omega, r1, by omega, kk.heap HBx.out.1 (ng _ (by simp)), kk.heap HBx.out.2.1 (ng _ (by simp)), fun x hx => ⟨oo x (HBx.out.2.2.1 x hx).1 (HBx.out.2.2.2.1 x hx), Nat.lt_of_lt_of_le (HBx.out.2.2.2.1 x hx) kk.size⟩, (HBx.out.2.2.2.2.keep kk (fun x hx hm => hx.2.1 (List.mem_cons_of_mem _ hm))).mono (fun x hx => ⟨Nat.lt_of_lt_of_le hx.1 kk.size, oo x hx.2.1 hx.1, hx.2.2⟩)⟩
          · rcases o7 q hx with e | e
            · exact hqG e
            · omega
          · rcases List.mem_cons.1 hx with e | e
            · rw [e]; exact hlo q (by simp)
            · rcases o7 x e with e2 | e2
              · exact hlo x (List.mem_cons_of_mem _ e2)
              · omega
        have HNew := Lib.hid hNew
        clear hNew k7 HAr
        go_wp2_with fail
        first | go_roundw | refine ⟨?rel, ?measure⟩
        case rel => exact ⟨q, a + 1, k + 1, by omega, by omega, rfl, by go_num, by go_num, HNew⟩
        case measure => simp [intOf]; omega
      · have k7 : (kd == 7) = false := by simpa using kd7
        have hKept := Lib.hid (kept_any w6 (Ls := [w4.heap.size, w4.heap.size + 1]) HBx.out.2.2.2.1 HFl.out.1 HFl.out.2.1 HFl.out.2.2.1 HFl.out.2.2.2.2.2.1 HFl.out.2.2.2.2.2.2.2.1 (by have := HFl.out.2.2.2.2.2.2.2.2; omega) HBx.out.2.2.2.2 kd af kp HDt.out.1 HDt.out.2.1 HDt.out.2.2.1 HDt.out.2.2.2.1 HDt.out.2.2.2.2.1 HDt.out.2.2.2.2.2)
        clear kd7
        go_wp2_with fail
        refine hKept.out.mono ?_
        rintro e w7 ⟨M, nm, cm, vm, hl, db, j', s', G2, rfl, g7, hel, hnm, hkr, hok7⟩
        have hq6 : q < w6.heap.size := (Array.getElem?_eq_some_iff.1 HFl.out.2.1).1
        have y12 := g7.keep.heap HBx.out.1 (HBx.out.2.2.1 _ (by simp)).1
        have y10 := g7.keep.heap HBx.out.2.1 (HBx.out.2.2.1 _ (by simp)).1
        have z0 := g7.keep.cell p0 HGw.out.1
        have lo2 : ∀ x ∈ q :: G2, W.heap.size ≤ x := fun x hx => by
          rcases List.mem_cons.1 hx with e | e
          · rw [e]; exact HFl.out.2.2.2.1 q (by simp)
          · rcases g7.out x e with e2 | e2
            · exact HFl.out.2.2.2.1 x (List.mem_cons_of_mem _ e2)
            · have := HFl.out.2.2.2.2.1.size; omega
        have b7 := g7.keep.below HFl.out.2.2.2.2.1 HFl.out.2.2.2.2.1.size HFl.out.2.2.2.1
        have L7 : ∀ x ∈ [w4.heap.size, w4.heap.size + 1], x ∉ q :: G2 ∧ x < w7.heap.size := fun x hx => by
          have h1 := HBx.out.2.2.1 x hx
          have h2 := HBx.out.2.2.2.1 x hx
          have h3 := g7.keep.size
          refine ⟨fun hm => ?_, by omega⟩
          rcases List.mem_cons.1 hm with e | e
          · exact h1.1 (by simp [e])
          · rcases g7.out x e with e2 | e2
            · exact h1.1 (List.mem_cons_of_mem _ e2)
            · omega
        have hNb : (N + 4) + 3 * s'.armed.length ≤ 10 * k + 24 ∧ s'.armed.length + (if s'.down then 1 else 0) ≤ a := by
          have h1 := HFl.out.2.2.2.2.2.2.1
          have h2 := HFl.out.2.2.2.2.2.2.2.2
          rcases hkr.out with ⟨_, _, _, h3, h4⟩ | ⟨_, h3, h4, _⟩
          · rw [h3.down, if_neg (by decide)]; omega
          · rw [h3, if_pos rfl]; omega
        have H7 := Lib.hid (And.intro g7 (And.intro hel (And.intro hkr (And.intro hok7 (And.intro y12 (And.intro y10 (And.intro lo2 (And.intro b7 (And.intro L7 hNb)))))))))
        clear g7 hel hkr hok7 y12 y10 lo2 b7 L7 hNb o0 o1 p0 p1 p2 p3 p4 hKept hq6
        go_upto_region 20 with fail
        go_cut [84] from 50 to 122 (fun v wx => v = .bool (!db && (kd != 2)) ∧ wx = w7)
        case first =>
          cases db
          · go_wp2_with fail
            go_meet
            exact ⟨by simp, rfl⟩
          · go_wp2_with fail
            go_meet
            exact ⟨by simp, rfl⟩
        case rest =>
          obtain ⟨rfl, hwc⟩ := hcut
          rw [hwc]
          clear hwc
          obtain ⟨cnd, hcnd⟩ : ∃ x, x = (!db && (kd != 2)) := ⟨_, rfl⟩
          rw [← hcnd]
          cases cnd
          · obtain ⟨h', hmem, hSI⟩ : ∃ h', h' ∈ hl ∧ SI 0 s' h' := by
              rcases H7.out.2.2.1.out with ⟨_, h', h1, h2, _⟩ | ⟨_, _, _, h', h1, h2⟩
              · exact ⟨h', List.mem_of_getElem? h1, h2.si⟩
              · exact ⟨h', h1, h2⟩
            have hre := Lib.hid (reopened_any w7 (B := 10 * k + 24) (tries := a) H7.out.1.fl hSI ⟨N + 4, H7.out.2.2.2.1, H7.out.2.2.2.2.2.2.2.2.2.1⟩ (by omega) H7.out.2.2.2.2.2.2.2.2.2.2 (by omega))
            have HM := Lib.hid hmem
            clear hcnd hmem hSI z0
            go_wp2_with fail
            refine hre.out.mono ?_
            rintro e w8 ⟨q8, j8, s8, G8, u0, u1, cut, rfl, O8, hO8⟩
            obtain ⟨SA, sa8, sb8, SB, sc8, sd8, us8, rfl, rfl, -⟩ := O8.hin.out
            have nG : ∀ x ∈ [w4.heap.size, w4.heap.size + 1], x ∉ G2 := fun x hx hm => (H7.out.2.2.2.2.2.2.2.2.1 x hx).1 (List.mem_cons_of_mem _ hm)
            have y12 := O8.keep.heap H7.out.2.2.2.2.1 (nG _ (by simp))
            have y10 := O8.keep.heap H7.out.2.2.2.2.2.1 (nG _ (by simp))
            have i8 := H7.out.2.1.keep (P' := fun x => Pn w7 q G2 [w4.heap.size, w4.heap.size + 1] x) O8.keep (fun x hx hm => hx.2.1 (List.mem_cons_of_mem _ hm)) (fun x hx => hx)
            have b8 := O8.keep.below H7.out.2.2.2.2.2.2.2.1 H7.out.2.2.2.2.2.2.2.1.size (fun x hx => H7.out.2.2.2.2.2.2.1 x (List.mem_cons_of_mem _ hx))
            have L8 : ∀ x ∈ [w4.heap.size, w4.heap.size + 1], x ∉ q8 :: G8 ∧ x < w8.heap.size := fun x hx => by
              have h1 := H7.out.2.2.2.2.2.2.2.2.1 x hx
              have h3 := O8.keep.size
              refine ⟨fun hm => ?_, by omega⟩
              rcases List.mem_cons.1 hm with e | e
              · have := O8.q0; omega
              · rcases O8.out x e with e2 | e2
                · exact nG x hx e2
                · omega
            have lo8 : ∀ x ∈ q8 :: G8, W.heap.size ≤ x := fun x hx => by
              have h1 := H7.out.2.2.2.2.2.2.2.1.size
              rcases List.mem_cons.1 hx with e | e
              · have := O8.q0; omega
              · rcases O8.out x e with e2 | e2
                · exact H7.out.2.2.2.2.2.2.1 x (List.mem_cons_of_mem _ e2)
                · omega
            have s4 := set4 (.int .i64 (j8.epoch : Nat)) (.slice SA sa8 sb8) (.slice SB sc8 sd8) (.int .i64 (cut : Nat)) y10
            have f0 := box_free y10 0
            have f1 := box_free y10 1
            have f2 := box_free y10 2
            have f3 := box_free y10 3
            have m0 := box_cell y10 0 _ rfl
            have m1 := box_cell y10 1 _ rfl
            have m2 := box_cell y10 2 _ rfl
            have m3 := box_cell y10 3 _ rfl
            have H8 := Lib.hid (And.intro O8 (And.intro y12 (And.intro i8 (And.intro b8 (And.intro L8 (And.intro lo8 (And.intro s4 hO8)))))))
            clear O8 y12 y10 i8 b8 L8 lo8 s4 hO8 nG hre
            go_upto_region 23 with fail
            obtain ⟨w9, hw9⟩ : ∃ x, x = ((((w8.setCell ⟨w4.heap.size, 0, none⟩ (.int .i64 (j8.epoch : Nat))).setCell ⟨w4.heap.size, 1, none⟩ (.slice SA sa8 sb8)).setCell ⟨w4.heap.size, 2, none⟩ (.slice SB sc8 sd8)).setCell ⟨w4.heap.size, 3, none⟩ (.int .i64 (cut : Nat))) := ⟨_, rfl⟩
            rw [← hw9] at H8 ⊢
            clear hw9 m0 m1 m2 m3 f0 f1 f2 f3
            have q9 : ∀ x, Pn w7 q G2 [w4.heap.size, w4.heap.size + 1] x → Pn w9 q8 G8 [w4.heap.size, w4.heap.size + 1] x := fun x hx => by
              obtain ⟨O8, _, _, _, _, _, s4, _⟩ := H8.out
              have h1 := O8.keep.size
              have h2 := s4.2.size
              refine ⟨by have := hx.1; omega, fun hm => ?_, hx.2.2⟩
              rcases List.mem_cons.1 hm with e | e
              · have := O8.q0; have := hx.1; omega
              · rcases O8.out x e with e2 | e2
                · exact hx.2.1 (List.mem_cons_of_mem _ e2)
                · have := hx.1; omega
            have el9 : Hels w9 (Pn w9 q8 G8 [w4.heap.size, w4.heap.size + 1]) M nm cm vm hl := H8.out.2.2.1.keep H8.out.2.2.2.2.2.2.1.2 (fun x hx hm => hx.2.2 (by rw [List.mem_singleton.1 hm]; simp)) q9
            have hr9 := H8.out.1.hin.keep H8.out.2.2.2.2.2.2.1.2 (fun x hx hm => by have h1 := (H7.out.2.2.2.2.2.2.2.2.1 w4.heap.size (by simp)).2; rw [List.mem_singleton.1 hm] at hx; omega)
            have y12 := H8.out.2.2.2.2.2.2.1.2.heap H8.out.2.1 (by simp)
            have H9 := Lib.hid (And.intro el9 (And.intro hr9 H8.out.2.2.2.2.2.2.1.1))
            have h0 : InI w9 w9 (Pn w9 q8 G8 [w4.heap.size, w4.heap.size + 1]) (w4.heap.size + 1) 0 false hl h' := ⟨a0, a1, a2, c0, c1, c2, y12, Keep.refl _ _, fun _ i' x hi => absurd hi (Nat.not_lt_zero _), fun h => by cases h⟩
            have nm1 := el9.sl.le; have nm2 := el9.sl.max
            clear q9 el9 hr9 y12
            go_wp2_with fail
            go_loopw [18, 19] (fun fv kv wx => ∃ (i : Nat) (fb : Bool), i ≤ nm ∧ fv = .bool fb ∧ kv = .int .i64 (i : Nat) ∧ Hid (InI w9 wx (Pn w9 q8 G8 [w4.heap.size, w4.heap.size + 1]) (w4.heap.size + 1) i fb hl h')) (fun _ kv _ => nm + 1 - (intOf kv).toNat)
            case atStart => exact ⟨0, false, by omega, rfl, rfl, Lib.hid h0⟩
            case round =>
              clear h0
              obtain ⟨i, fb, hi, rfl, rfl, HNI⟩ := hrel
              obtain ⟨E, e0, e1, F, ff0, ff1, x12, kx, hnf, hyf⟩ := HNI.out.out
              cases fb
              · have HNF := Lib.hid (hnf rfl)
                clear hnf hyf HNI
                by_cases hin : i < nm
                rotate_left
                · exfalso
                  obtain ⟨i', hi', hx'⟩ := List.getElem_of_mem HM.out
                  have h1 := H9.out.1.len
                  exact HNF.out i' h' (by omega) (by rw [List.getElem?_eq_getElem hi', hx']) rfl
                obtain ⟨bm, om, rfl⟩ := H9.out.1.sl.form (by omega)
                have hli : i < hl.length := by rw [H9.out.1.len]; exact hin
                obtain ⟨V0, V1, w0, w1', hiv⟩ := H9.out.1.at_ i _ (List.getElem?_eq_getElem hli)
                obtain ⟨d0, d1, d2, D0, D1, D2, ud, rfl, rfl, -⟩ := hiv.out
                have hbm : bm ∉ [w4.heap.size + 1] := fun hm => (H9.out.1.pa _ rfl).2.2 (by rw [List.mem_singleton.1 hm]; simp)
                have gc0 : wr.cell? ⟨bm, om + i * 2, none⟩ = some (.slice d0 d1 d2) := by
                  obtain ⟨h1, h2⟩ := List.getElem?_eq_some_iff.1 w0
                  have h3 := H9.out.1.sl.cell _ h1
                  rw [h2] at h3; exact kx.cell h3 hbm
                have gc1 : wr.cell? ⟨bm, om + i * 2 + 1, none⟩ = some (.slice D0 D1 D2) := by
                  obtain ⟨h1, h2⟩ := List.getElem?_eq_some_iff.1 w1'
                  have h3 := H9.out.1.sl.cell _ h1
                  rw [h2] at h3; exact kx.cell h3 hbm
                have x10 := kx.heap H9.out.2.2 (by simp)
                have hk0' : (0 : Int) ≤ (i : Int) := Int.natCast_nonneg _
                have hk1' : (i : Int) < (nm : Int) := by omega
                obtain ⟨hi_, hhi⟩ : ∃ x, x = hl[i] := ⟨_, rfl⟩
                rw [← hhi] at hiv
                have hget : hl[i]? = some hi_ := by rw [hhi]; exact List.getElem?_eq_getElem hli
                have r0 := box_cell x10 0 _ rfl
                have r1 := box_cell x10 1 _ rfl
                have r2 := box_cell x10 2 _ rfl
                have r3 := box_cell x10 3 _ rfl
                have SBH : Hid (∀ wz, Below wr.heap.size wr wz → (wz.cell? ⟨bm, om + i * 2, none⟩ = some (.slice d0 d1 d2) ∧ wz.cell? ⟨bm, om + i * 2 + 1, none⟩ = some (.slice D0 D1 D2) ∧ wz.cell? ⟨w4.heap.size, 0, none⟩ = some (.int .i64 (j8.epoch : Nat)) ∧ wz.cell? ⟨w4.heap.size, 1, none⟩ = some (.slice SA sa8 sb8) ∧ wz.cell? ⟨w4.heap.size, 2, none⟩ = some (.slice SB sc8 sd8) ∧ wz.cell? ⟨w4.heap.size, 3, none⟩ = some (.int .i64 (cut : Nat)))) := Lib.hid (fun wz hz => ⟨cell_below gc0 hz, cell_below gc1 hz, cell_below r0 hz, cell_below r1 hz, cell_below r2 hz, cell_below r3 hz⟩)
                have i1 := hiv.keep kx (fun x hx hm => hx.2.2 (by rw [List.mem_singleton.1 hm]; simp))
                have i2 := H9.out.2.1.keep kx (fun x hx hm => by have h1 := (H7.out.2.2.2.2.2.2.2.2.1 (w4.heap.size + 1) (by simp)).2; rw [List.mem_singleton.1 hm] at hx; omega)
                have HCI := Lib.hid (fun (wz : World) (hz : Below wr.heap.size wr wz) => is_any wz (i1.below hz) (i2.below hz) (j8.epoch : Nat) (cut : Nat))
                have HK := Lib.hid (And.intro x12 (And.intro kx (And.intro hiv hget)))
                clear gc0 gc1 r0 r1 r2 r3 i1 i2 x10 x12 kx hiv hget w0 w1' hhi hbm hli
                by_cases heq : hi_ = h'
                · have HCI : Hid (∀ wz, Below wr.heap.size wr wz → Calls Try.prog 58 #[.agg #[.slice d0 d1 d2, .slice D0 D1 D2], .agg #[.int .i64 (j8.epoch : Nat), .slice SA sa8 sb8, .slice SB sc8 sd8, .int .i64 (cut : Nat)]] wz fun e w' => e = .returned (.bool true) ∧ Below wz.heap.size wz w') := Lib.hid (fun wz hz => by
                    have h1 := HCI.out wz hz
                    rw [show decide (hi_.snap = h'.snap ∧ hi_.recs = h'.recs) = true from decide_eq_true (by rw [heq]; exact ⟨rfl, rfl⟩)] at h1
                    exact h1)
                  have HEq := Lib.hid heq
                  clear heq
                  go_wp2_with fail
                  refine wp_region_held_drew (S := (fun wz => wz.cell? ⟨bm, om + i * 2, none⟩ = some (.slice d0 d1 d2) ∧ wz.cell? ⟨bm, om + i * 2 + 1, none⟩ = some (.slice D0 D1 D2) ∧ wz.cell? ⟨w4.heap.size, 0, none⟩ = some (.int .i64 (j8.epoch : Nat)) ∧ wz.cell? ⟨w4.heap.size, 1, none⟩ = some (.slice SA sa8 sb8) ∧ wz.cell? ⟨w4.heap.size, 2, none⟩ = some (.slice SB sc8 sd8) ∧ wz.cell? ⟨w4.heap.size, 3, none⟩ = some (.int .i64 (cut : Nat)))) (by kernel_rfl) (by (first | exact SBH.out _ b10 | exact SBH.out _ (Below.refl _ _) | exact SBH.out _ (Below.refl _ _).drew)) (fun hHeld => ?_)
                  refine wpAnyH_take (i := 0) (v := ?_) (by simp only [List.getElem?_toArray, List.getElem?_cons_succ, List.getElem?_cons_zero]; rfl) (by kernel_rfl) (by kernel_rfl) (by kernel_rfl) (by exact fun _ _ _ h => h) (Or.inl ⟨by rfl, ?_⟩) (by assumption) ?_
                  rotate_left
                  · (intro w hSw; (try dsimp only at hSw); go_simp; try with_reducible rfl)
                  try simp only [Act.put, List.setIfInBounds_toArray, List.set_cons_zero, List.set_cons_succ]
                  refine wpAnyH_take (i := 1) (v := ?_) (by simp only [List.getElem?_toArray, List.getElem?_cons_succ, List.getElem?_cons_zero]; rfl) (by kernel_rfl) (by kernel_rfl) (by kernel_rfl) (by exact fun _ _ _ h => h) (Or.inl ⟨by rfl, ?_⟩) (by assumption) ?_
                  rotate_left
                  · (intro w hSw; (try dsimp only at hSw); go_simp; try with_reducible rfl)
                  try simp only [Act.put, List.setIfInBounds_toArray, List.set_cons_zero, List.set_cons_succ]
                  refine wpAnyH_take (i := 2) (v := ?_) (by simp only [List.getElem?_toArray, List.getElem?_cons_succ, List.getElem?_cons_zero]; rfl) (by kernel_rfl) (by kernel_rfl) (by kernel_rfl) (by exact fun _ _ _ h => h) (Or.inl ⟨by rfl, ?_⟩) (by assumption) ?_
                  rotate_left
                  · (intro w hSw; (try dsimp only at hSw); go_simp; try with_reducible rfl)
                  try simp only [Act.put, List.setIfInBounds_toArray, List.set_cons_zero, List.set_cons_succ]
                  refine wpAnyH_take (i := 3) (v := ?_) (by simp only [List.getElem?_toArray, List.getElem?_cons_succ, List.getElem?_cons_zero]; rfl) (by kernel_rfl) (by kernel_rfl) (by kernel_rfl) (by exact fun _ _ _ h => h) (Or.inl ⟨by rfl, ?_⟩) (by assumption) ?_
                  rotate_left
                  · (intro w hSw; (try dsimp only at hSw); go_simp; try with_reducible rfl)
                  try simp only [Act.put, List.setIfInBounds_toArray, List.set_cons_zero, List.set_cons_succ]
                  refine wpAnyH_take (i := 4) (v := ?_) (by simp only [List.getElem?_toArray, List.getElem?_cons_succ, List.getElem?_cons_zero]; rfl) (by kernel_rfl) (by kernel_rfl) (by kernel_rfl) (by exact fun _ _ _ h => h) (Or.inl ⟨by rfl, ?_⟩) (by assumption) ?_
                  rotate_left
                  · (intro w hSw; (try dsimp only at hSw); go_simp; try with_reducible rfl)
                  try simp only [Act.put, List.setIfInBounds_toArray, List.set_cons_zero, List.set_cons_succ]
                  refine wpAnyH_ready (rs := [5]) (by kernel_rfl) (by simp) ?_
                  refine AllReadyH.cons rfl (fun K hK => ?_) AllReadyH.nil
                  rw [if_pos (by rfl)]
                  (go_wp2_with fail; refine (HCI.out _ (by first | exact (Below.refl _ _).drew | exact below_drewN (Below.refl _ _) _ | exact Below.refl _ _)).mono ?_; rintro e w10 ⟨rfl, k10⟩; have b10 := (show Below wr.heap.size wr w10 from bthen (by first | exact (Below.refl _ _).drew | exact below_drewN (Below.refl _ _) _ | exact Below.refl _ _) k10); try dsimp only)
                  refine hK.out _ _ (by (first | exact SBH.out _ b10 | exact SBH.out _ (Below.refl _ _) | exact SBH.out _ (Below.refl _ _).drew)) (fun hHeld => ?_)
                  clear hK K
                  try simp only [Act.put, List.setIfInBounds_toArray, List.set_cons_zero, List.set_cons_succ]
                  refine wpAnyH_done (by kernel_rfl) ?_ _
                  obtain ⟨g0, g1, _⟩   := SBH.out _ b10
                  have y12 := heap_below HK.out.1 b10
                  have f0 := box_free y12 0
                  have f1 := box_free y12 1
                  have m0 : w10.cell? ⟨(w4.heap.size+1), 0, none⟩ = some (.slice E e0 e1) := box_cell y12 0 _ rfl
                  have m1 : w10.cell? ⟨(w4.heap.size+1), 1, none⟩ = some (.slice F ff0 ff1) := box_cell y12 1 _ rfl
                  have HY := Lib.hid (And.intro y12 b10)
                  clear y12 b10 k10 HCI SBH
                  go_wp2_with fail
                  have kM : Keep [w4.heap.size + 1] w10 ((w10.setCell ⟨w4.heap.size + 1, 0, none⟩ (.slice d0 d1 d2)).setCell ⟨w4.heap.size + 1, 1, none⟩ (.slice D0 D1 D2)) := ((Keep.refl _ w10).setCell (p := ⟨w4.heap.size + 1, 0, none⟩) (.inl (by simp)) _).setCell (p := ⟨w4.heap.size + 1, 1, none⟩) (.inl (by simp)) _
                  have z12 := heap_setCell_same (w10.setCell ⟨w4.heap.size + 1, 0, none⟩ (.slice d0 d1 d2)) (w4.heap.size + 1) 1 _ _ (.slice D0 D1 D2) (heap_setCell_same w10 (w4.heap.size + 1) 0 _ _ (.slice d0 d1 d2) HY.out.1)
                  have HNew : Hid (InI w9 ((w10.setCell ⟨w4.heap.size + 1, 0, none⟩ (.slice d0 d1 d2)).setCell ⟨w4.heap.size + 1, 1, none⟩ (.slice D0 D1 D2)) (Pn w9 q8 G8 [w4.heap.size, w4.heap.size + 1]) (w4.heap.size + 1) (i + 1) true hl h') := Lib.hid ⟨d0, d1, d2, D0, D1, D2, z12, (HK.out.2.1.trans (Keep.of_below HY.out.2 _)).trans kM, fun h => (by cases h), fun _ => by have h1 := HK.out.2.2.1; rw [HEq.out] at h1; exact h1⟩
                  clear m0 m1 f0 f1 g0 g1 kM z12
                  first | go_roundw | refine ⟨?rel, ?measure⟩
                  case rel => exact ⟨i + 1, true, by omega, rfl, by go_num, HNew⟩
                  case measure => simp [intOf]; omega
                · have HCI : Hid (∀ wz, Below wr.heap.size wr wz → Calls Try.prog 58 #[.agg #[.slice d0 d1 d2, .slice D0 D1 D2], .agg #[.int .i64 (j8.epoch : Nat), .slice SA sa8 sb8, .slice SB sc8 sd8, .int .i64 (cut : Nat)]] wz fun e w' => e = .returned (.bool false) ∧ Below wz.heap.size wz w') := Lib.hid (fun wz hz => by
                    have h1 := HCI.out wz hz
                    rw [show decide (hi_.snap = h'.snap ∧ hi_.recs = h'.recs) = false from decide_eq_false (fun hh => heq (by obtain ⟨xa, xb⟩ := hi_; obtain ⟨ya, yb⟩ := h'; simp only at hh; rw [hh.1, hh.2]))] at h1
                    exact h1)
                  have HEq := Lib.hid heq
                  clear heq
                  go_wp2_with fail
                  refine wp_region_held_drew (S := (fun wz => wz.cell? ⟨bm, om + i * 2, none⟩ = some (.slice d0 d1 d2) ∧ wz.cell? ⟨bm, om + i * 2 + 1, none⟩ = some (.slice D0 D1 D2) ∧ wz.cell? ⟨w4.heap.size, 0, none⟩ = some (.int .i64 (j8.epoch : Nat)) ∧ wz.cell? ⟨w4.heap.size, 1, none⟩ = some (.slice SA sa8 sb8) ∧ wz.cell? ⟨w4.heap.size, 2, none⟩ = some (.slice SB sc8 sd8) ∧ wz.cell? ⟨w4.heap.size, 3, none⟩ = some (.int .i64 (cut : Nat)))) (by kernel_rfl) (by (first | exact SBH.out _ b10 | exact SBH.out _ (Below.refl _ _) | exact SBH.out _ (Below.refl _ _).drew)) (fun hHeld => ?_)
                  refine wpAnyH_take (i := 0) (v := ?_) (by simp only [List.getElem?_toArray, List.getElem?_cons_succ, List.getElem?_cons_zero]; rfl) (by kernel_rfl) (by kernel_rfl) (by kernel_rfl) (by exact fun _ _ _ h => h) (Or.inl ⟨by rfl, ?_⟩) (by assumption) ?_
                  rotate_left
                  · (intro w hSw; (try dsimp only at hSw); go_simp; try with_reducible rfl)
                  try simp only [Act.put, List.setIfInBounds_toArray, List.set_cons_zero, List.set_cons_succ]
                  refine wpAnyH_take (i := 1) (v := ?_) (by simp only [List.getElem?_toArray, List.getElem?_cons_succ, List.getElem?_cons_zero]; rfl) (by kernel_rfl) (by kernel_rfl) (by kernel_rfl) (by exact fun _ _ _ h => h) (Or.inl ⟨by rfl, ?_⟩) (by assumption) ?_
                  rotate_left
                  · (intro w hSw; (try dsimp only at hSw); go_simp; try with_reducible rfl)
                  try simp only [Act.put, List.setIfInBounds_toArray, List.set_cons_zero, List.set_cons_succ]
                  refine wpAnyH_take (i := 2) (v := ?_) (by simp only [List.getElem?_toArray, List.getElem?_cons_succ, List.getElem?_cons_zero]; rfl) (by kernel_rfl) (by kernel_rfl) (by kernel_rfl) (by exact fun _ _ _ h => h) (Or.inl ⟨by rfl, ?_⟩) (by assumption) ?_
                  rotate_left
                  · (intro w hSw; (try dsimp only at hSw); go_simp; try with_reducible rfl)
                  try simp only [Act.put, List.setIfInBounds_toArray, List.set_cons_zero, List.set_cons_succ]
                  refine wpAnyH_take (i := 3) (v := ?_) (by simp only [List.getElem?_toArray, List.getElem?_cons_succ, List.getElem?_cons_zero]; rfl) (by kernel_rfl) (by kernel_rfl) (by kernel_rfl) (by exact fun _ _ _ h => h) (Or.inl ⟨by rfl, ?_⟩) (by assumption) ?_
                  rotate_left
                  · (intro w hSw; (try dsimp only at hSw); go_simp; try with_reducible rfl)
                  try simp only [Act.put, List.setIfInBounds_toArray, List.set_cons_zero, List.set_cons_succ]
                  refine wpAnyH_take (i := 4) (v := ?_) (by simp only [List.getElem?_toArray, List.getElem?_cons_succ, List.getElem?_cons_zero]; rfl) (by kernel_rfl) (by kernel_rfl) (by kernel_rfl) (by exact fun _ _ _ h => h) (Or.inl ⟨by rfl, ?_⟩) (by assumption) ?_
                  rotate_left
                  · (intro w hSw; (try dsimp only at hSw); go_simp; try with_reducible rfl)
                  try simp only [Act.put, List.setIfInBounds_toArray, List.set_cons_zero, List.set_cons_succ]
                  refine wpAnyH_ready (rs := [5]) (by kernel_rfl) (by simp) ?_
                  refine AllReadyH.cons rfl (fun K hK => ?_) AllReadyH.nil
                  rw [if_pos (by rfl)]
                  (go_wp2_with fail; refine (HCI.out _ (by first | exact (Below.refl _ _).drew | exact below_drewN (Below.refl _ _) _ | exact Below.refl _ _)).mono ?_; rintro e w10 ⟨rfl, k10⟩; have b10 := (show Below wr.heap.size wr w10 from bthen (by first | exact (Below.refl _ _).drew | exact below_drewN (Below.refl _ _) _ | exact Below.refl _ _) k10); try dsimp only)
                  refine hK.out _ _ (by (first | exact SBH.out _ b10 | exact SBH.out _ (Below.refl _ _) | exact SBH.out _ (Below.refl _ _).drew)) (fun hHeld => ?_)
                  clear hK K
                  try simp only [Act.put, List.setIfInBounds_toArray, List.set_cons_zero, List.set_cons_succ]
                  refine wpAnyH_done (by kernel_rfl) ?_ _
                  have HNew : Hid (InI w9 w10 (Pn w9 q8 G8 [w4.heap.size, w4.heap.size + 1]) (w4.heap.size + 1) (i + 1) false hl h') := Lib.hid ⟨E, e0, e1, F, ff0, ff1, heap_below HK.out.1 b10, HK.out.2.1.trans (Keep.of_below b10 _), fun _ i' x hi' hx => by
                    by_cases h1 : i' < i
                    · exact HNF.out i' x h1 hx
                    · have h2 : i' = i := by omega
                      rw [h2, HK.out.2.2.2] at hx
                      have := Option.some.inj hx; subst this
                      exact HEq.out, fun h => (by cases h)⟩
                  clear b10 k10 HCI SBH
                  go_wp2_with fail
                  first | go_roundw | refine ⟨?rel, ?measure⟩
                  case rel => exact ⟨i + 1, false, by omega, rfl, by go_num, HNew⟩
                  case measure => simp [intOf]; omega
              · have hyf := hyf rfl
                obtain ⟨O8, _, _, b8, L8, lo8, s4, N8, hN8, hN8b, hN8a⟩ := H8.out
                have hNew : KpI W wr W.heap.size w4.heap.size (w4.heap.size + 1) q8 a (k + 1) := by
                  have h4 := s4.2
                  have nB : ∀ x ∈ [w4.heap.size], x ∉ q8 :: G8 := fun x hx => (L8 x (by rw [List.mem_singleton.1 hx]; simp)).1
                  have nB2 : ∀ x ∈ [w4.heap.size + 1], x ∉ q8 :: G8 := fun x hx => (L8 x (by rw [List.mem_singleton.1 hx]; simp)).1
                  have f9 := (O8.fl.keep h4 (fun x hx hm => nB x hm (List.mem_cons_of_mem _ hx))).keep kx (fun x hx hm => nB2 x hm (List.mem_cons_of_mem _ hx))
                  have j9 := (O8.jo.keep h4 (fun hm => nB q8 hm (by simp))).keep kx (fun hm => nB2 q8 hm (by simp))
                  have b9 := (h4.below b8 b8.size (fun x hx => by rw [List.mem_singleton.1 hx]; exact HW4.out))
                  have b10 := kx.below b9 b9.size (fun x hx => by rw [List.mem_singleton.1 hx]; have := HW4.out; omega)
                  have hz := kx.size
                  have hz4 := h4.size
                  refine ⟨G8, j8, s8, h', _, _, _, SA, sa8, sb8, SB, sc8, sd8, _, N8, f9, j9, O8.qG, lo8, b10, O8.ji, hN8a, hN8, by omega, x12, kx.heap H9.out.2.2 (by simp), fun x hx => ⟨(L8 x hx).1, by have := (L8 x hx).2; omega⟩, (hyf.keep kx (fun x hx hm => hx.2.2 (by rw [List.mem_singleton.1 hm]; simp))).mono (fun x hx => ⟨by have := hx.1; omega, hx.2⟩)⟩
                have HNew := Lib.hid hNew
                clear hNew hyf x12 kx hnf HNI b8 L8 lo8 s4 hN8 hN8b hN8a O8
                rcases Nat.lt_or_ge i nm with hin | hin
                · have hk1' : (i : Int) < (nm : Int) := by omega
                  go_wp2_with fail
                  first | go_roundw | refine ⟨?rel, ?measure⟩
                  case rel => exact ⟨q8, a, k + 1, by omega, by omega, rfl, rfl, by go_num, HNew⟩
                  case measure => simp [intOf]; omega
                · have hk1' : (nm : Int) ≤ (i : Int) := by omega
                  go_wp2_with fail
                  first | go_roundw | refine ⟨?rel, ?measure⟩
                  case rel => exact ⟨q8, a, k + 1, by omega, by omega, rfl, rfl, by go_num, HNew⟩
                  case measure => simp [intOf]; omega
          · have hdb : db = false := by cases db; rfl; simp at hcnd
            obtain ⟨h', hh0, hJ', _⟩ : ∃ h', hl[0]? = some h' ∧ JI 0 j' s' h' ∧ s'.armed.length ≤ s.armed.length := by
              rcases H7.out.2.2.1.out with ⟨_, h3⟩ | ⟨h3, _⟩
              · exact h3
              · rw [hdb] at h3; cases h3
            obtain ⟨V0, V1, e0, e1, hi'⟩ := H7.out.2.1.at_ 0 h' hh0
            obtain ⟨d0, d1, d2, D0, D1, D2, ud, rfl, rfl, -⟩ := hi'.out
            have hnm0 : 0 < nm := by
              have h1 := (List.getElem?_eq_some_iff.1 hh0).1
              have h2 := H7.out.2.1.len
              omega
            obtain ⟨bm, om, rfl⟩ := H7.out.2.1.sl.form hnm0
            have hnm1 : (0 : Int) < (nm : Int) := by omega
            have gc0 : w7.cell? ⟨bm, om, none⟩ = some (.slice d0 d1 d2) := by
              obtain ⟨h1, h2⟩ := List.getElem?_eq_some_iff.1 e0
              have h3 := H7.out.2.1.sl.cell _ h1
              rw [h2] at h3; simpa using h3
            have gc1 : w7.cell? ⟨bm, om + 1, none⟩ = some (.slice D0 D1 D2) := by
              obtain ⟨h1, h2⟩ := List.getElem?_eq_some_iff.1 e1
              have h3 := H7.out.2.1.sl.cell _ h1
              rw [h2] at h3; simpa using h3
            have y12 := H7.out.2.2.2.2.1
            have f0 := box_free y12 0
            have f1 := box_free y12 1
            have m0 : w7.cell? ⟨(w4.heap.size+1), 0, none⟩ = some (.slice a0 a1 a2) := box_cell y12 0 _ rfl
            have m1 : w7.cell? ⟨(w4.heap.size+1), 1, none⟩ = some (.slice c0 c1 c2) := box_cell y12 1 _ rfl
            have H8 := Lib.hid (And.intro hJ' hi')
            clear hcnd hdb hh0 hJ' e0 e1 hi' y12 hnm0
            go_wp2_with fail
            have kM : Keep [w4.heap.size + 1] w7 ((w7.setCell ⟨w4.heap.size + 1, 0, none⟩ (.slice d0 d1 d2)).setCell ⟨w4.heap.size + 1, 1, none⟩ (.slice D0 D1 D2)) := ((Keep.refl _ w7).setCell (p := ⟨w4.heap.size + 1, 0, none⟩) (.inl (by simp)) _).setCell (p := ⟨w4.heap.size + 1, 1, none⟩) (.inl (by simp)) _
            have z12 := heap_setCell_same (w7.setCell ⟨w4.heap.size + 1, 0, none⟩ (.slice d0 d1 d2)) (w4.heap.size + 1) 1 _ _ (.slice D0 D1 D2) (heap_setCell_same w7 (w4.heap.size + 1) 0 _ _ (.slice d0 d1 d2) H7.out.2.2.2.2.1)
            clear m0 m1 f0 f1 gc0 gc1
            obtain ⟨w8, hw8⟩ : ∃ x, x = ((w7.setCell ⟨w4.heap.size + 1, 0, none⟩ (.slice d0 d1 d2)).setCell ⟨w4.heap.size + 1, 1, none⟩ (.slice D0 D1 D2)) := ⟨_, rfl⟩
            rw [← hw8] at kM z12 ⊢
            clear hw8
            have hNew : KpI W w8 W.heap.size w4.heap.size (w4.heap.size + 1) q a (k + 1) := by
              obtain ⟨g7, hel, hkr, hok7, y12, y10, lo2, b7, L7, hNb⟩ := H7.out
              have hz := kM.size
              refine ⟨G2, j', s', h', _, _, re, RA, ra, rb, RB, rc, rd, ru, N + 4, g7.fl.keep kM (fun x hx hm => (L7 (w4.heap.size + 1) (by simp)).1 (by rw [← List.mem_singleton.1 hm]; exact List.mem_cons_of_mem _ hx)), g7.jo.keep kM (fun hm => (L7 (w4.heap.size + 1) (by simp)).1 (by rw [← List.mem_singleton.1 hm]; simp)), g7.qG, lo2, kM.below b7 b7.size (fun x hx => by rw [List.mem_singleton.1 hx]; have := HW4.out; omega), H8.out.1, by have := hNb.2; rw [H8.out.1.down, if_neg (by decide)] at this; omega, hok7, by omega, z12, kM.heap y10 (by simp), fun x hx => ⟨(L7 x hx).1, Nat.lt_of_lt_of_le (L7 x hx).2 hz⟩, (H8.out.2.keep kM (fun x hx hm => hx.2.2 (by rw [List.mem_singleton.1 hm]; simp))).mono (fun x hx => ⟨Nat.lt_of_lt_of_le hx.1 hz, hx.2⟩)⟩
            have HNew := Lib.hid hNew
            clear hNew kM z12
            first | go_roundw | refine ⟨?rel, ?measure⟩
            case rel => exact ⟨q, a, k + 1, by omega, by omega, rfl, rfl, by go_num, HNew⟩
            case measure => simp [intOf]; omega
    · obtain rfl : k = m := by omega
      obtain ⟨a0, a1, a2, c0, c1, c2, us, rfl, rfl, -⟩ := hin.out
      have hre := reopened_any wr (B := 10 * k + 20) (tries := a) fF J.si ⟨N, hok, hNk⟩ (by omega) (by rw [J.down, if_neg (by decide)]; omega) (by omega)
      have HK := Lib.hid (And.intro x12 (And.intro x10 (And.intro hL (And.intro hin (And.intro hb hlo)))))
      clear HI fF fJ hqG hlo hb J har hok hNk x12 x10 hL hin
      go_wp2_with fail
      refine hre.mono ?_
      rintro e w6 ⟨q6, j6, s6, G6, u0, u1, cut, rfl, O6, -⟩
      obtain ⟨SA, sa, sb, SB, sc, sd, us6, rfl, rfl, -⟩ := O6.hin.out
      have nG : ∀ x ∈ [w4.heap.size, w4.heap.size + 1], x ∉ G := fun x hx hm => (HK.out.2.2.1 x hx).1 (List.mem_cons_of_mem _ hm)
      have x12 := O6.keep.heap HK.out.1 (nG _ (by simp))
      have x10 := O6.keep.heap HK.out.2.1 (nG _ (by simp))
      have i6 := HK.out.2.2.2.1.keep O6.keep (fun x hx hm => hx.2.1 (List.mem_cons_of_mem _ hm))
      have b6 := O6.keep.below HK.out.2.2.2.2.1 HK.out.2.2.2.2.1.size (fun x hx => HK.out.2.2.2.2.2 x (List.mem_cons_of_mem _ hx))
      have s4 := set4 (.int .i64 (j6.epoch : Nat)) (.slice SA sa sb) (.slice SB sc sd) (.int .i64 (cut : Nat)) x10
      have z10 := (HK.out.2.2.1 w4.heap.size (by simp)).2
      have y12 := s4.2.heap x12 (by simp)
      have y10 := s4.1
      have iu := O6.hin.keep s4.2 (fun x hx hm => by have := hx.1; simp at hm; omega)
      have ih := i6.keep s4.2 (fun x hx hm => hx.2.2 (by simp at hm; simp [hm]))
      have b7 := s4.2.below b6 b6.size (fun x hx => by simp at hx; have := HW4.out; omega)
      have H7 := Lib.hid (And.intro s4 (And.intro y12 (And.intro y10 (And.intro iu (And.intro ih b7)))))
      have f0 := box_free x10 0
      have f1 := box_free x10 1
      have f2 := box_free x10 2
      have f3 := box_free x10 3
      have m0 := box_cell x10 0 _ rfl
      have m1 := box_cell x10 1 _ rfl
      have m2 := box_cell x10 2 _ rfl
      have m3 := box_cell x10 3 _ rfl
      clear O6 nG x12 x10 i6 b6 s4 z10 y12 y10 iu ih b7 hre
      go_upto_region 35 with fail
      obtain ⟨w7, hw7⟩ : ∃ x, x = ((((w6.setCell ⟨w4.heap.size, 0, none⟩ (.int .i64 (j6.epoch : Nat))).setCell ⟨w4.heap.size, 1, none⟩ (.slice SA sa sb)).setCell ⟨w4.heap.size, 2, none⟩ (.slice SB sc sd)).setCell ⟨w4.heap.size, 3, none⟩ (.int .i64 (cut : Nat))) := ⟨_, rfl⟩
      rw [← hw7] at H7 ⊢
      have y12 := H7.out.2.1
      have y10 := H7.out.2.2.1
      clear hw7 m0 m1 m2 m3 f0 f1 f2 f3
      have p0 : w7.cell? ⟨(w4.heap.size+1), 0, none⟩ = some (.slice a0 a1 a2) := box_cell y12 0 _ rfl
      have p1 : w7.cell? ⟨(w4.heap.size+1), 1, none⟩ = some (.slice c0 c1 c2) := box_cell y12 1 _ rfl
      have o0 : w7.cell? ⟨w4.heap.size, 0, none⟩ = some (.int .i64 (j6.epoch : Nat)) := box_cell y10 0 _ rfl
      have o1 : w7.cell? ⟨w4.heap.size, 1, none⟩ = some (.slice SA sa sb) := box_cell y10 1 _ rfl
      have o2 : w7.cell? ⟨w4.heap.size, 2, none⟩ = some (.slice SB sc sd) := box_cell y10 2 _ rfl
      have o3 : w7.cell? ⟨w4.heap.size, 3, none⟩ = some (.int .i64 (cut : Nat)) := box_cell y10 3 _ rfl
      have hIs := is_any w7 H7.out.2.2.2.2.1 H7.out.2.2.2.1 (j6.epoch : Nat) (cut : Nat)
      rw [show decide (h.snap = h.snap ∧ h.recs = h.recs) = true from decide_eq_true ⟨rfl, rfl⟩] at hIs
      clear y12 y10
      go_wp2_with fail
      refine hIs.mono ?_
      rintro e w8 ⟨rfl, b8⟩
      have b8' := Lib.hid (bthen H7.out.2.2.2.2.2 b8)
      clear hIs b8 o0 o1 o2 o3 p0 p1
      go_wp2_with fail
      refine (works_any _).mono ?_
      rintro e w9 ⟨rfl, b9⟩
      go_wp2_with fail
      go_ret
      exact ⟨rfl, bthen b8'.out b9⟩
end Go.Proofs.Ytpjmbhhfpoamnaa
