import Derived.Test.YtpjmbhhfpoamnaaJn25
set_option linter.unusedVariables false
set_option linter.unusedSimpArgs false
namespace Go.Proofs.Ytpjmbhhfpoamnaa
open Go.RowKit
set_option maxRecDepth 100000 in
set_option maxHeartbeats 6400000 in
theorem swRf4 (W w8 : World) (q k R E C V Bx : Nat) (kd : Int) {G : List Nat} {j : JSt} {s : FSt} {h : Hd} (J8 : JW W w8 W.heap.size q G j s) (J : JI 0 j s h) (har : s.armed = []) (hok : FOkN (1 + 5 * k) s) (hkm : k < 1954687338213) (hR : R = jroom j s) (hE : E = j.epoch) (hC : C = j.count) (hV : V = s.writes)
    {da sa fa : Option Addr} {dn dc sn sc fb fd : Nat} {ff : Bool} {od os : List UInt8} (dW : Sl W 1 da dn dc (od.map by8)) (dm : dn ≤ 140737488351232) (sW : Sl W 1 sa sn sc (os.map by8)) (sm : sn ≤ 140737488351232) {c3 c4 : Value} (x8 : w8.heap[Bx]? = some (.cells #[.int .i64 kd, .slice da dn dc, .slice sa sn sc, c3, c4] 97 (0, 0)))
    (hff : (od.length ≤ 262144 ∧ ff = true ∧ fb = od.length + 10) ∨ (262144 < od.length ∧ ff = false)) (hkd : kd = 4) (y0 y1 y2 y3 y4 y5 y6 y7 y8 y10 y11 y12 y21 y22 y23 y24 y25 y26 y27 y28 y29 y30 y31 y32 y33 y34 y35 y36 y37 y38 y39 y40 y41 y42 y43 y44 y45 y46 y47 y48 y49 y50 y51 y52 y53 y54 y55 y56 y57 y58 y59 y60 y61 y62 y63 y64 y65 y66 y67 y68 y69 y70 y71 y72 y73 y75 y76 y77 y78 y79 y80 y81 y82 y83 y84 y85 y86 y87 y88 y89 y90 y91 y92 y93 y94 y95 y96 y97 y98 y99 y100 y101 y102 y103 y104 y105 y106 y107 y108 y109 y110 y111 y112 y113 y114 y115 y116 y117 y118 y119 y120 y121 y122 y123 y124 y125 y126 y127 y128 y129 y130 y131 y132 y133 y134 y135 y136 y137 y138 y139 y140 y141 y142 y143 y144 y145 y146 y147 y148 y149 y150 y151 y152 y153 y154 y155 y156 y157 y158 y159 y160 y161 y162 y163 y164 y165 y166 y167 y168 y169 y170 y171 y172 y173 y174 y175 y176 y177 y178 y179 y180 y181 y182 y183 y184 y185 y186 y187 y188 y189 y190 y191 y192 y193 y194 y195 y196 y197 y198 y199 y200 y201 y202 y203 y204 y205 y206 y207 y208 y209 y210 y211 y212 y213 y214 : Value)
    (J' K' : Act → World → Prop) (Q' : Exit → Act → World → Prop) (hJ' : ∀ a' w', (∃ u6 u20 u49 u50 u51 u52 u53 u54 u55 u56 u57 u58 u59 u60 u61 u62 u63 u64 u65 u66 u67 u68 u69 u70 u71 u72 u73 u74 u75 u76 u77 u78 u79 u80 u81 u82 u83 u84 u85 u86 u87 u88 u89 u90 u91 u92 u93 u94 u95 u96 u97 u98 u99 u100 u101 u102 u103 u104 u105 u106 u107 u108 u109 u110 u111 u112 u113 u114 u115 u116 u117 u118 u119 u120 u121 u122 u123 u124 u125 u126 u127 u128 u129 u130 u131 u132 u133 u134 u135 u136 u137 u138 u139 u140 u141 u142 u143 u144 u145 u146 u147 u148 u149 u150 u151 u152 u153 u154 u155 u156 u157 u158 u159 u160 u161 u162 u163 u164 u165 u166 u167 u168 u169 u170 u171 u172 u173 u174 u175 u176 u177 u178 u179 u180 u181 u182 u183 u184 u185 u186 u187 u188 u189 u190 u191 u192 u193 u194 u195 u196 u197 u198 u199 u200 u201 u202 u203 u204 u205 u206 u207 u208 u209 u210 u211 u212 u213 : Value, (∃ gn : Nat, u20 = .int .i64 (gn : Nat) ∧ Hid (RfC W w' W.heap.size q k R E C V gn)) ∧ a' = ({ tmps := #[y0, y1, y2, y3, y4, y5, u6, y7, y8, .pointer (some ⟨q, 0, none⟩), y10, y11, y12, .pointer (some ⟨Bx, 0, none⟩), .int .i64 (R : Nat), .int .i64 (E : Nat), .int .i64 (C : Nat), .int .i64 (V : Nat), .slice fa fb fd, .bool ff, u20, y21, y22, y23, y24, y25, y26, y27, y28, y29, y30, y31, y32, y33, y34, y35, y36, y37, y38, y39, y40, y41, y42, y43, y44, y45, y46, y47, y48, u49, u50, u51, u52, u53, u54, u55, u56, u57, u58, u59, u60, u61, u62, u63, u64, u65, u66, u67, u68, u69, u70, u71, u72, u73, u74, u75, u76, u77, u78, u79, u80, u81, u82, u83, u84, u85, u86, u87, u88, u89, u90, u91, u92, u93, u94, u95, u96, u97, u98, u99, u100, u101, u102, u103, u104, u105, u106, u107, u108, u109, u110, u111, u112, u113, u114, u115, u116, u117, u118, u119, u120, u121, u122, u123, u124, u125, u126, u127, u128, u129, u130, u131, u132, u133, u134, u135, u136, u137, u138, u139, u140, u141, u142, u143, u144, u145, u146, u147, u148, u149, u150, u151, u152, u153, u154, u155, u156, u157, u158, u159, u160, u161, u162, u163, u164, u165, u166, u167, u168, u169, u170, u171, u172, u173, u174, u175, u176, u177, u178, u179, u180, u181, u182, u183, u184, u185, u186, u187, u188, u189, u190, u191, u192, u193, u194, u195, u196, u197, u198, u199, u200, u201, u202, u203, u204, u205, u206, u207, u208, u209, u210, u211, u212, u213, y214], defers := [] } : Act)) → J' a' w') (hK' : ∀ a' w', Met J' a' w' → K' a' w') :
    Code.wp Try.prog (cB (cA (cB (cB (cB (cB (cB (cB (cB (cK (cA (cB (cK (cK (cB (cA (cB (cB (cB (cB (cB (cB (Try.f17.body.getD .skip))))))))))))))))))))))) (Exit.then K' Q') { tmps := #[y0, y1, y2, y3, y4, y5, y6, y7, y8, .pointer (some ⟨q, 0, none⟩), y10, y11, y12, .pointer (some ⟨Bx, 0, none⟩), .int .i64 (R : Nat), .int .i64 (E : Nat), .int .i64 (C : Nat), .int .i64 (V : Nat), .slice fa fb fd, .bool ff, .int .i64 0, y21, y22, y23, y24, y25, y26, y27, y28, y29, y30, y31, y32, y33, y34, y35, y36, y37, y38, y39, y40, y41, y42, y43, y44, y45, y46, y47, y48, y49, y50, y51, y52, y53, y54, y55, y56, y57, y58, y59, y60, y61, y62, y63, y64, y65, y66, y67, y68, y69, y70, y71, y72, y73, .int .i64 4, y75, y76, y77, y78, y79, y80, y81, y82, y83, y84, y85, y86, y87, y88, y89, y90, y91, y92, y93, y94, y95, y96, y97, y98, y99, y100, y101, y102, y103, y104, y105, y106, y107, y108, y109, y110, y111, y112, y113, y114, y115, y116, y117, y118, y119, y120, y121, y122, y123, y124, y125, y126, y127, y128, y129, y130, y131, y132, y133, y134, y135, y136, y137, y138, y139, y140, y141, y142, y143, y144, y145, y146, y147, y148, y149, y150, y151, y152, y153, y154, y155, y156, y157, y158, y159, y160, y161, y162, y163, y164, y165, y166, y167, y168, y169, y170, y171, y172, y173, y174, y175, y176, y177, y178, y179, y180, y181, y182, y183, y184, y185, y186, y187, y188, y189, y190, y191, y192, y193, y194, y195, y196, y197, y198, y199, y200, y201, y202, y203, y204, y205, y206, y207, y208, y209, y210, y211, y212, y213, y214], defers := [] } w8 := by
  have HQ : Hid (∀ wx G, JW W wx W.heap.size q G j s → Four wx W.heap.size q R E C V) := Lib.hid (fun wx G h => by rw [hR, hE, hC, hV]; exact four J hok (by omega) h)
  have hR1 : R ≤ 1048576 := by have := J.size hok; omega
  have hE1 : E ≤ 9773436691076 := by have := J.ep; have := hok.writes; omega
  have hC1 : C ≤ 1048576 := by have := J.size hok; have := J.count; have := J.lens; omega
  have hV1 : V ≤ 9773436691076 := by have := hok.writes; omega
  have HX := Lib.hid (And.intro hR (And.intro hE (And.intro hC hV)))
  have HJ := Lib.hid (And.intro J (And.intro har hok))
  have HJ2 := Lib.hid (And.intro J.bank (And.intro (show j.count ≤ 4611686018427387904 by have := hC; omega) (And.intro (show j.used ≤ 4611686018427387904 by have := J.used; have := J.size hok; omega) (J.lens.2.2.2.2))))
  have HD := Lib.hid (And.intro dW (And.intro sW (And.intro dm sm)))
  have H8 := Lib.hid (And.intro J8 x8)
  have p0 := box_cell x8 0 _ rfl
  have p1 := box_cell x8 1 _ rfl
  have p2 := box_cell x8 2 _ rfl
  have v1 : ((V : Int) != (V : Int)) = false := by simp
  have r1 : ((R : Int) != (R : Int)) = false := by simp
  have e1 : ((E : Int) != (E : Int)) = false := by simp
  have c1 : ((C : Int) != (C : Int)) = false := by simp
  clear dW sW J8 J har hok hR hE hC hV x8 dm sm
  dsimp only [cA, cB, cK, Try.f17, Option.getD]
  subst hkd
  clear p1 hff
  have HA := JCompact_any w8 H8.out.1.jo H8.out.1.fl H8.out.1.qG HJ.out.2.2 (by omega) HJ2.out.1 HJ2.out.2.2.2 HJ2.out.2.2.1 (HD.out.2.1.below H8.out.1.b) HD.out.2.2.2
  rcases jcmpF_cases HJ.out.1 HJ.out.2.2 (by omega) os 0 with ⟨g, eA, hg⟩ | ⟨j', s', eA, q1, q2, q3, q4, _⟩ | ⟨j', s', eA, q1, q2⟩
  · rw [eA] at HA
    have HA := Lib.hid HA
    have hg1 : ((g : Int) == 0) = false := by simp; omega
    have hg2 : ((g : Int) != 0) = true := by simp; omega
    clear eA hg
    go_wp2_with fail
    refine HA.out.mono ?_
    rintro e w9 ⟨rfl, k9⟩
    have HS := Lib.hid k9
    clear k9 HA
    go_wp2_with fail

    obtain ⟨G9, J9⟩ := H8.out.1.step HS.out
    have HW := Lib.hid J9
    clear J9 HS H8

    go_wp2_with fail
    go_meet
    exact ⟨_, rfl, Lib.hid ⟨_, j, s, h, HW.out, HJ.out.1, HJ.out.2.1, HJ.out.2.2.more (by omega), fun _ => ⟨HX.out.1.symm, HX.out.2.1.symm, HX.out.2.2.1.symm, HX.out.2.2.2.symm⟩⟩⟩
  · have hN2 := (jcmpF_ok (j := j) HJ.out.2.2 os 0).1
    rw [eA] at HA hN2
    have HA := Lib.hid HA
    obtain ⟨R2, hR2⟩ : ∃ x, x = jroom j' s' := ⟨_, rfl⟩
    obtain ⟨E2, hE2⟩ : ∃ x, x = j'.epoch := ⟨_, rfl⟩
    obtain ⟨V2, hV2⟩ : ∃ x, x = s'.writes := ⟨_, rfl⟩
    have HQ2 : Hid (∀ wx G, JW W wx W.heap.size q G j' s' → Four wx W.heap.size q R2 E2 0 V2) := Lib.hid (fun wx G h => by rw [hR2, hE2, ← q4, hV2]; exact four q2 hN2 (by omega) h)
    have t1 : ((E2 : Int) != (E : Int) + 1) = false := by
      rw [← hE2, ← HX.out.2.1] at q3
      simp; omega
    have HN1 : Hid (JI 0 j' s' ⟨os, []⟩ ∧ s'.armed = [] ∧ FOkN (1 + 5 * k + 4) s') := Lib.hid ⟨q2, by exact List.eq_nil_of_length_eq_zero (by have h := q1.armed; rw [HJ.out.2.1] at h; simpa using h), hN2.more (by omega)⟩
    clear eA hR2 hE2 hV2 q1 q2 q3 q4 hN2
    go_wp2_with fail
    refine HA.out.mono ?_
    rintro e w9 ⟨rfl, k9⟩
    have HS := Lib.hid k9
    clear k9 HA
    go_wp2_with fail

    obtain ⟨G9, J9⟩ := H8.out.1.step HS.out
    have HW := Lib.hid J9
    have HN := Lib.hid HN1.out
    clear J9 HS H8

    have hQ2 := HQ2.out _ _ HW.out
    refine hQ2.2.1.mono ?_
    rintro e wz ⟨rfl, rfl⟩
    clear hQ2
    go_wp2_with fail

    have hQ2 := HQ2.out _ _ HW.out
    refine hQ2.2.2.1.mono ?_
    rintro e wz ⟨rfl, rfl⟩
    clear hQ2
    go_wp2_with fail

    go_meet
    exact ⟨0, rfl, Lib.hid ⟨_, j', s', _, HW.out, HN.out.1, HN.out.2.1, HN.out.2.2, fun h0 => absurd rfl h0⟩⟩
  · exfalso
    have h9 := q1.armed
    rw [HJ.out.2.1] at h9
    simp at h9
set_option maxRecDepth 100000 in
set_option maxHeartbeats 6400000 in
theorem swRf0 (W w8 : World) (q k R E C V Bx : Nat) (kd : Int) {G : List Nat} {j : JSt} {s : FSt} {h : Hd} (J8 : JW W w8 W.heap.size q G j s) (J : JI 0 j s h) (har : s.armed = []) (hok : FOkN (1 + 5 * k) s) (hkm : k < 1954687338213) (hR : R = jroom j s) (hE : E = j.epoch) (hC : C = j.count) (hV : V = s.writes)
    {da sa fa : Option Addr} {dn dc sn sc fb fd : Nat} {ff : Bool} {od os : List UInt8} (dW : Sl W 1 da dn dc (od.map by8)) (dm : dn ≤ 140737488351232) (sW : Sl W 1 sa sn sc (os.map by8)) (sm : sn ≤ 140737488351232) {c3 c4 : Value} (x8 : w8.heap[Bx]? = some (.cells #[.int .i64 kd, .slice da dn dc, .slice sa sn sc, c3, c4] 97 (0, 0)))
    (hff : (od.length ≤ 262144 ∧ ff = true ∧ fb = od.length + 10) ∨ (262144 < od.length ∧ ff = false)) (kd3 : kd ≠ 3) (kd4 : kd ≠ 4) (kd5 : kd ≠ 5) (y0 y1 y2 y3 y4 y5 y6 y7 y8 y10 y11 y12 y21 y22 y23 y24 y25 y26 y27 y28 y29 y30 y31 y32 y33 y34 y35 y36 y37 y38 y39 y40 y41 y42 y43 y44 y45 y46 y47 y48 y49 y50 y51 y52 y53 y54 y55 y56 y57 y58 y59 y60 y61 y62 y63 y64 y65 y66 y67 y68 y69 y70 y71 y72 y73 y75 y76 y77 y78 y79 y80 y81 y82 y83 y84 y85 y86 y87 y88 y89 y90 y91 y92 y93 y94 y95 y96 y97 y98 y99 y100 y101 y102 y103 y104 y105 y106 y107 y108 y109 y110 y111 y112 y113 y114 y115 y116 y117 y118 y119 y120 y121 y122 y123 y124 y125 y126 y127 y128 y129 y130 y131 y132 y133 y134 y135 y136 y137 y138 y139 y140 y141 y142 y143 y144 y145 y146 y147 y148 y149 y150 y151 y152 y153 y154 y155 y156 y157 y158 y159 y160 y161 y162 y163 y164 y165 y166 y167 y168 y169 y170 y171 y172 y173 y174 y175 y176 y177 y178 y179 y180 y181 y182 y183 y184 y185 y186 y187 y188 y189 y190 y191 y192 y193 y194 y195 y196 y197 y198 y199 y200 y201 y202 y203 y204 y205 y206 y207 y208 y209 y210 y211 y212 y213 y214 : Value)
    (J' K' : Act → World → Prop) (Q' : Exit → Act → World → Prop) (hJ' : ∀ a' w', (∃ u6 u20 u49 u50 u51 u52 u53 u54 u55 u56 u57 u58 u59 u60 u61 u62 u63 u64 u65 u66 u67 u68 u69 u70 u71 u72 u73 u74 u75 u76 u77 u78 u79 u80 u81 u82 u83 u84 u85 u86 u87 u88 u89 u90 u91 u92 u93 u94 u95 u96 u97 u98 u99 u100 u101 u102 u103 u104 u105 u106 u107 u108 u109 u110 u111 u112 u113 u114 u115 u116 u117 u118 u119 u120 u121 u122 u123 u124 u125 u126 u127 u128 u129 u130 u131 u132 u133 u134 u135 u136 u137 u138 u139 u140 u141 u142 u143 u144 u145 u146 u147 u148 u149 u150 u151 u152 u153 u154 u155 u156 u157 u158 u159 u160 u161 u162 u163 u164 u165 u166 u167 u168 u169 u170 u171 u172 u173 u174 u175 u176 u177 u178 u179 u180 u181 u182 u183 u184 u185 u186 u187 u188 u189 u190 u191 u192 u193 u194 u195 u196 u197 u198 u199 u200 u201 u202 u203 u204 u205 u206 u207 u208 u209 u210 u211 u212 u213 : Value, (∃ gn : Nat, u20 = .int .i64 (gn : Nat) ∧ Hid (RfC W w' W.heap.size q k R E C V gn)) ∧ a' = ({ tmps := #[y0, y1, y2, y3, y4, y5, u6, y7, y8, .pointer (some ⟨q, 0, none⟩), y10, y11, y12, .pointer (some ⟨Bx, 0, none⟩), .int .i64 (R : Nat), .int .i64 (E : Nat), .int .i64 (C : Nat), .int .i64 (V : Nat), .slice fa fb fd, .bool ff, u20, y21, y22, y23, y24, y25, y26, y27, y28, y29, y30, y31, y32, y33, y34, y35, y36, y37, y38, y39, y40, y41, y42, y43, y44, y45, y46, y47, y48, u49, u50, u51, u52, u53, u54, u55, u56, u57, u58, u59, u60, u61, u62, u63, u64, u65, u66, u67, u68, u69, u70, u71, u72, u73, u74, u75, u76, u77, u78, u79, u80, u81, u82, u83, u84, u85, u86, u87, u88, u89, u90, u91, u92, u93, u94, u95, u96, u97, u98, u99, u100, u101, u102, u103, u104, u105, u106, u107, u108, u109, u110, u111, u112, u113, u114, u115, u116, u117, u118, u119, u120, u121, u122, u123, u124, u125, u126, u127, u128, u129, u130, u131, u132, u133, u134, u135, u136, u137, u138, u139, u140, u141, u142, u143, u144, u145, u146, u147, u148, u149, u150, u151, u152, u153, u154, u155, u156, u157, u158, u159, u160, u161, u162, u163, u164, u165, u166, u167, u168, u169, u170, u171, u172, u173, u174, u175, u176, u177, u178, u179, u180, u181, u182, u183, u184, u185, u186, u187, u188, u189, u190, u191, u192, u193, u194, u195, u196, u197, u198, u199, u200, u201, u202, u203, u204, u205, u206, u207, u208, u209, u210, u211, u212, u213, y214], defers := [] } : Act)) → J' a' w') (hK' : ∀ a' w', Met J' a' w' → K' a' w') :
    Code.wp Try.prog (cB (cA (cB (cB (cB (cB (cB (cB (cB (cK (cA (cB (cK (cK (cB (cA (cB (cB (cB (cB (cB (cB (Try.f17.body.getD .skip))))))))))))))))))))))) (Exit.then K' Q') { tmps := #[y0, y1, y2, y3, y4, y5, y6, y7, y8, .pointer (some ⟨q, 0, none⟩), y10, y11, y12, .pointer (some ⟨Bx, 0, none⟩), .int .i64 (R : Nat), .int .i64 (E : Nat), .int .i64 (C : Nat), .int .i64 (V : Nat), .slice fa fb fd, .bool ff, .int .i64 0, y21, y22, y23, y24, y25, y26, y27, y28, y29, y30, y31, y32, y33, y34, y35, y36, y37, y38, y39, y40, y41, y42, y43, y44, y45, y46, y47, y48, y49, y50, y51, y52, y53, y54, y55, y56, y57, y58, y59, y60, y61, y62, y63, y64, y65, y66, y67, y68, y69, y70, y71, y72, y73, .int .i64 kd, y75, y76, y77, y78, y79, y80, y81, y82, y83, y84, y85, y86, y87, y88, y89, y90, y91, y92, y93, y94, y95, y96, y97, y98, y99, y100, y101, y102, y103, y104, y105, y106, y107, y108, y109, y110, y111, y112, y113, y114, y115, y116, y117, y118, y119, y120, y121, y122, y123, y124, y125, y126, y127, y128, y129, y130, y131, y132, y133, y134, y135, y136, y137, y138, y139, y140, y141, y142, y143, y144, y145, y146, y147, y148, y149, y150, y151, y152, y153, y154, y155, y156, y157, y158, y159, y160, y161, y162, y163, y164, y165, y166, y167, y168, y169, y170, y171, y172, y173, y174, y175, y176, y177, y178, y179, y180, y181, y182, y183, y184, y185, y186, y187, y188, y189, y190, y191, y192, y193, y194, y195, y196, y197, y198, y199, y200, y201, y202, y203, y204, y205, y206, y207, y208, y209, y210, y211, y212, y213, y214], defers := [] } w8 := by
  have HQ : Hid (∀ wx G, JW W wx W.heap.size q G j s → Four wx W.heap.size q R E C V) := Lib.hid (fun wx G h => by rw [hR, hE, hC, hV]; exact four J hok (by omega) h)
  have hR1 : R ≤ 1048576 := by have := J.size hok; omega
  have hE1 : E ≤ 9773436691076 := by have := J.ep; have := hok.writes; omega
  have hC1 : C ≤ 1048576 := by have := J.size hok; have := J.count; have := J.lens; omega
  have hV1 : V ≤ 9773436691076 := by have := hok.writes; omega
  have HX := Lib.hid (And.intro hR (And.intro hE (And.intro hC hV)))
  have HJ := Lib.hid (And.intro J (And.intro har hok))
  have HJ2 := Lib.hid (And.intro J.bank (And.intro (show j.count ≤ 4611686018427387904 by have := hC; omega) (And.intro (show j.used ≤ 4611686018427387904 by have := J.used; have := J.size hok; omega) (J.lens.2.2.2.2))))
  have HD := Lib.hid (And.intro dW (And.intro sW (And.intro dm sm)))
  have H8 := Lib.hid (And.intro J8 x8)
  have p0 := box_cell x8 0 _ rfl
  have p1 := box_cell x8 1 _ rfl
  have p2 := box_cell x8 2 _ rfl
  have v1 : ((V : Int) != (V : Int)) = false := by simp
  have r1 : ((R : Int) != (R : Int)) = false := by simp
  have e1 : ((E : Int) != (E : Int)) = false := by simp
  have c1 : ((C : Int) != (C : Int)) = false := by simp
  clear dW sW J8 J har hok hR hE hC hV x8 dm sm
  dsimp only [cA, cB, cK, Try.f17, Option.getD]
  have k3 : (kd == 3) = false := by simpa using kd3
  have k4 : (kd == 4) = false := by simpa using kd4
  have k5 : (kd == 5) = false := by simpa using kd5
  clear kd3 kd4 kd5 hff
  have HW := Lib.hid H8.out.1
  clear H8 p1 p2
  go_wp2_with fail
  go_meet
  exact ⟨0, rfl, Lib.hid ⟨_, j, s, h, HW.out, HJ.out.1, HJ.out.2.1, HJ.out.2.2.more (by omega), fun h0 => absurd rfl h0⟩⟩
end Go.Proofs.Ytpjmbhhfpoamnaa
