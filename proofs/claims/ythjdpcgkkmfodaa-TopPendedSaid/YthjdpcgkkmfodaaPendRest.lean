/- TopPended: what is looked at behind each thing that is done. -/
import Derived.Test.YthjdpcgkkmfodaaPendK
namespace Go.Proofs.Ythjdpcgkkmfodaa.Pend
open Go.RowKit Go.Proofs.Ythjdpcgkkmfodaa.Base
set_option linter.unusedVariables false
set_option linter.unusedSimpArgs false

set_option maxRecDepth 100000 in
set_option maxHeartbeats 4000000 in
theorem rest_any {Q0 : Exit → Act → World → Prop} (s0 s1 s2 s3 s4 s5 s6 s9 s12 s13 s15 s16 s17 s18 s19 s20 s21 s22 s23 s24 s25 s26 s27 s28 s29 s30 s31 s32 s33 s34 s35 s36 s37 s38 s39 s40 s41 s42 s43 s44 s45 s46 s47 s48 s49 s50 s51 s52 s53 s54 s55 s56 s57 s58 s59 s60 s61 s62 s63 s64 s65 s66 s67 s68 s69 s70 s71 s72 s73 s74 s75 s76 s77 s78 s79 s80 s81 s82 s83 s84 s85 s86 s87 s88 s89 s90 s91 s92 s93 s94 s95 s96 s97 s98 s99 s100 s101 s102 s103 s104 s105 s106 s107 s108 s109 s110 s111 s112 s113 s114 s115 s116 s117 s118 s119 s120 s121 s122 s123 s124 s125 s126 s127 s128 s129 s130 s131 s132 s133 s134 s135 s136 s137 s138 s139 s140 s141 s142 s143 s144 s145 s146 s147 s148 s149 s150 s151 s152 s153 s154 s155 s156 s157 s158 s159 s160 s161 s162 s163 s164 s165 s166 s167 s168 s169 s170 s171 s172 s173 s174 s175 s176 s177 s178 s179 s180 s181 s182 s183 s184 s185 s186 s187 s188 s189 s190 s191 s192 s193 s194 s195 s196 s197 s198 s199 s200 s201 s202 s203 s204 s205 s206 s207 s208 s209 s210 s211 s212 s213 s214 s215 s216 s217 s218 s219 s220 s221 s222 s223 s224 s225 s226 s227 s228 s229 s230 s231 s232 s233 s234 s235 s236 s237 s238 s239 s240 s241 s242 s243 s244 s245 s246 s247 s248 s249 s250 s251 s252 s253 s254 s255 s256 s257 s258 s259 s260 s261 s262 s263 s264 s265 s266 s267 s268 s269 s270 : Value) {W0 wc : World} {m kb kc at_ q : Nat} {L : Places} {wvv wv : Value} {kept now : List Int} {wait : List P3} (hm : 0 < m) (hm4 : m ≤ 4) (hat : at_ ≤ 8 * m) (hq : q ≤ 1000)
    (hH : Hand (8 * m) q kept now wait) (hSx : St W0 m L kb kc wvv wv kept now wait kept wait wc)
    (hQ : ∀ (v6 v25 v27 v28 v29 v202 v203 v204 v205 v206 v207 v208 v209 v210 v211 v212 v213 v214 v215 v216 v217 v218 v219 v220 v221 v222 v223 v224 v225 v226 v227 v228 v229 v230 v231 v232 v233 v234 v235 v236 v237 v238 v239 v240 v241 v242 v243 v244 v245 v246 v247 v248 v249 v250 v251 v252 v253 v254 v255 v256 v257 v258 v259 v260 v261 v262 v263 v264 v265 v266 v267 v268 v269 : Value) (w' : World), St W0 m L kb kc wvv wv kept now wait kept wait w' → Q0 .normal ⟨#[s0, s1, s2, s3, s4, s5, v6, .int .i64 m, .pointer (some ⟨L.D, 0, none⟩), s9, .slice (some ⟨kb, 0, none⟩) (8 * m : Nat) kc, wvv, s12, s13, .int .i64 at_, s15, s16, s17, s18, s19, s20, s21, s22, s23, s24, v25, s26, v27, v28, v29, s30, s31, s32, s33, s34, s35, s36, s37, s38, s39, s40, s41, s42, s43, s44, s45, s46, s47, s48, s49, s50, s51, s52, s53, s54, s55, s56, s57, s58, s59, s60, s61, s62, s63, s64, s65, s66, s67, s68, s69, s70, s71, s72, s73, s74, s75, s76, s77, s78, s79, s80, s81, s82, s83, s84, s85, s86, s87, s88, s89, s90, s91, s92, s93, s94, s95, s96, s97, s98, s99, s100, s101, s102, s103, s104, s105, s106, s107, s108, s109, s110, s111, s112, s113, s114, s115, s116, s117, s118, s119, s120, s121, s122, s123, s124, s125, s126, s127, s128, s129, s130, s131, s132, s133, s134, s135, s136, s137, s138, s139, s140, s141, s142, s143, s144, s145, s146, s147, s148, s149, s150, s151, s152, s153, s154, s155, s156, s157, s158, s159, s160, s161, s162, s163, s164, s165, s166, s167, s168, s169, s170, s171, s172, s173, s174, s175, s176, s177, s178, s179, s180, s181, s182, s183, s184, s185, s186, s187, s188, s189, s190, s191, s192, s193, s194, s195, s196, s197, s198, s199, s200, s201, v202, v203, v204, v205, v206, v207, v208, v209, v210, v211, v212, v213, v214, v215, v216, v217, v218, v219, v220, v221, v222, v223, v224, v225, v226, v227, v228, v229, v230, v231, v232, v233, v234, v235, v236, v237, v238, v239, v240, v241, v242, v243, v244, v245, v246, v247, v248, v249, v250, v251, v252, v253, v254, v255, v256, v257, v258, v259, v260, v261, v262, v263, v264, v265, v266, v267, v268, v269, s270], []⟩ w') :
    Code.wp Try.prog rest25 Q0 ⟨#[s0, s1, s2, s3, s4, s5, s6, .int .i64 m, .pointer (some ⟨L.D, 0, none⟩), s9, .slice (some ⟨kb, 0, none⟩) (8 * m : Nat) kc, wvv, s12, s13, .int .i64 at_, s15, s16, s17, s18, s19, s20, s21, s22, s23, s24, s25, s26, s27, s28, s29, s30, s31, s32, s33, s34, s35, s36, s37, s38, s39, s40, s41, s42, s43, s44, s45, s46, s47, s48, s49, s50, s51, s52, s53, s54, s55, s56, s57, s58, s59, s60, s61, s62, s63, s64, s65, s66, s67, s68, s69, s70, s71, s72, s73, s74, s75, s76, s77, s78, s79, s80, s81, s82, s83, s84, s85, s86, s87, s88, s89, s90, s91, s92, s93, s94, s95, s96, s97, s98, s99, s100, s101, s102, s103, s104, s105, s106, s107, s108, s109, s110, s111, s112, s113, s114, s115, s116, s117, s118, s119, s120, s121, s122, s123, s124, s125, s126, s127, s128, s129, s130, s131, s132, s133, s134, s135, s136, s137, s138, s139, s140, s141, s142, s143, s144, s145, s146, s147, s148, s149, s150, s151, s152, s153, s154, s155, s156, s157, s158, s159, s160, s161, s162, s163, s164, s165, s166, s167, s168, s169, s170, s171, s172, s173, s174, s175, s176, s177, s178, s179, s180, s181, s182, s183, s184, s185, s186, s187, s188, s189, s190, s191, s192, s193, s194, s195, s196, s197, s198, s199, s200, s201, s202, s203, s204, s205, s206, s207, s208, s209, s210, s211, s212, s213, s214, s215, s216, s217, s218, s219, s220, s221, s222, s223, s224, s225, s226, s227, s228, s229, s230, s231, s232, s233, s234, s235, s236, s237, s238, s239, s240, s241, s242, s243, s244, s245, s246, s247, s248, s249, s250, s251, s252, s253, s254, s255, s256, s257, s258, s259, s260, s261, s262, s263, s264, s265, s266, s267, s268, s269, s270], []⟩ wc := by
  conv => arg 2; whnf
  obtain ⟨gw, cw, hwv⟩ := hSx.wrow.shape
  subst hwv
  have HC := Lib.hid (clone_words hSx.krow (by omega))
  have hwl := hH.len
  have HSx := Lib.hid hSx; have HH := Lib.hid hH; clear hSx hH
  go_wp2_with (go_at_call 44; refine HC.out.mono ?_; rintro e w1 ⟨v1, rfl, ho1, hb1⟩; obtain ⟨sb, sc, rfl, hsb, hsz⟩ := (wide_of_own ho1).some (by omega); have HO1 := Lib.hid ho1; have HB1 := Lib.hid hb1; have HS1 := Lib.hid (HSx.out.further hb1); clear ho1 hb1)
  have hsk : ¬ sb = kb := by have := HSx.out.kbd; omega
  have hsf : ¬ foot L wv sb := fun h => by have := (HSx.out.dev.lt _ h).2; omega
  have hsw : ¬ (Value.slice gw wait.length cw).ownBlock = some sb := fun h => by have := (HSx.out.wb _ h).2; omega
  have hsB : W0.heap.size ≤ sb := by have := HSx.out.below.size; omega
  have hw1 : wide w1 W0.heap.size 81 1 (.slice (some ⟨sb, 0, none⟩) (8 * m : Nat) sc) (8 * m) (words (seen kept (wait.take 0))) := (wide_of_own HO1.out).weaken (HSx.out.below.size)
  have HW1 := Lib.hid hw1
  have HN := Lib.hid HSx.out.n
  clear hw1 HC HO1 HB1
  have HF := Lib.hid hsf; have HSW := Lib.hid hsw; clear hsf hsw
  go_wp2_with fail
  go_loopw [206] (fun i wl => ∃ j : Nat, j ≤ wait.length ∧ i = .int .i64 j ∧ St W0 m L kb kc (.slice gw wait.length cw) wv kept now wait kept wait wl ∧ wide wl W0.heap.size 81 1 (.slice (some ⟨sb, 0, none⟩) (8 * m : Nat) sc) (8 * m) (words (seen kept (wait.take j)))) (fun i _ => wait.length - (intOf i).toNat)
  case atStart => exact ⟨0, by omega, rfl, HS1.out, HW1.out⟩
  case round =>
    obtain ⟨j, hj, rfl, hS, hW⟩ := hrel
    by_cases hlt : j < wait.length
    · obtain ⟨p, hp⟩ : ∃ p, wait[j]? = some p := ⟨wait[j], by simp [hlt]⟩
      obtain ⟨G, c', hv, hBG, hG⟩ := hS.wrow.some (by omega)
      simp only [Value.slice.injEq] at hv
      obtain ⟨rfl, -, rfl⟩ := hv
      obtain ⟨hg0, hg1, hg2⟩ := pends_get hp
      have e0 := hS.wrow.cell hg0
      have e1 := hS.wrow.cell hg1
      have e2 := hS.wrow.cell hg2
      have hpa := HH.out.at_lt p (List.mem_of_getElem? hp)
      have hset := hW.set (j := p.1) (u := .int .u64 p.2.1) (by omega)
      rw [words_set, ← seen_take hp] at hset
      obtain ⟨y, hy⟩ : ∃ y, (seen kept (wait.take j))[p.1]? = some y := ⟨_, List.getElem?_eq_getElem (by rw [seen_len, HH.out.kl]; exact hpa)⟩
      have d0 := hW.cell (words_get hy)
      have d1 := hW.free (j := p.1)
      have hsb2 : sb < wr.heap.size := (hW.lt sb rfl).2
      obtain ⟨a, x, f⟩ := p
      dsimp only at e0 e1 e2 hpa hset d0 d1
      have hS2 := (hS.only (S := fun k => k = sb) ((Only.refl _ _).setCell ⟨sb, a, none⟩ (.int .u64 x) (.inl rfl)) (fun k hk => by subst hk; exact ⟨HF.out, hsk, HSW.out, hsB⟩)).alloc (.cells #[.int .i64 (a : Int), .int .u64 x, .bool f] 85)
      have hW2 := hset.alloc (.cells #[.int .i64 (a : Int), .int .u64 x, .bool f] 85)
      have HS2 := Lib.hid hS2; have HW2 := Lib.hid hW2
      have hGn : ¬ G = wr.heap.size := by omega
      have hGn' : ¬ wr.heap.size = G := by omega
      have hsn : ¬ sb = wr.heap.size := by omega
      have hsn' : ¬ wr.heap.size = sb := by omega
      clear hS hW hp hg0 hg1 hg2 hy hset hS2 hW2
      go_wp2_with fail
      exact ⟨⟨j + 1, by omega, by go_num, HS2.out, HW2.out⟩, by simp [intOf]; omega⟩
    · have hjl : j = wait.length := by omega
      subst hjl
      rw [List.take_length, ← HH.out.now_eq] at hW
      have HS := Lib.hid hS; have HW := Lib.hid hW
      have hnl : now.length = 8 * m := by rw [HH.out.now_eq, seen_len]; exact HH.out.kl
      have HWD := Lib.hid (words_any hS.dev (by rw [HN.out]; omega))
      have tail : ∀ w1 : World, Below wr.heap.size wr w1 → St W0 m L kb kc (.slice gw wait.length cw) wv kept now wait kept wait w1 ∧ wide w1 W0.heap.size 81 1 (.slice (some ⟨sb, 0, none⟩) (8 * m : Nat) sc) (8 * m) (words now) := fun w1 hb => ⟨HS.out.further hb, HW.out.only (Only.of_below (S := fun _ => False) hb) (fun _ _ h => h)⟩
      have HT := Lib.hid tail; clear tail hS hW HSx HS1 HW1
      have hH1 := HH.out.len
      have HKD := Lib.hid (fun w1 (hb : Below wr.heap.size wr w1) => kept_any (HT.out w1 hb).1.dev (by rw [HN.out]; omega))
      have HPD := Lib.hid (fun w1 (hb : Below wr.heap.size wr w1) => pending_any (HT.out w1 hb).1.dev (by omega))
      have fin : ∀ (s v1 v2 v3 : Value), True := fun _ _ _ _ => trivial
      clear fin
      by_cases ha : at_ < 8 * m
      · obtain ⟨x, hx⟩ : ∃ x, now[at_]? = some x := ⟨now[at_]'(by omega), by simp⟩
        have hc := HW.out.cell (words_get hx)
        have HL := Lib.hid (load_ok HS.out.dev m HN.out (by omega) at_ x hx)
        have hbe : ((at_ : Int) == 8 * (m : Int)) = false := by simp; omega
        clear hx
        go_wp2_with (first
          | (go_at_call 45; refine HL.out.mono ?_; rintro e w' ⟨rfl, hw'⟩; subst w')
          | (go_at_call 47; refine HWD.out.mono ?_; rintro e w1 ⟨v1, rfl, ho1, hb1⟩; have HO1 := Lib.hid ho1; have HB1 := Lib.hid hb1; clear ho1 hb1))
        refine (equal_words (n := 8 * m) (by omega) (wide_of_own (by have := HO1.out; rw [HN.out] at this; exact this)) (HT.out _ HB1.out).2).mono ?_
        rintro e w2 ⟨rfl, n2, rfl⟩
        have hb2 : Below wr.heap.size wr (w1.drewN n2) := belowN HB1.out n2
        have HB2 := Lib.hid hb2; clear hb2
        go_wp2_with (first
          | (go_at_call 48; refine (HKD.out _ HB2.out).mono ?_; rintro e w3 ⟨v3, rfl, ho3, hb3⟩; have HO3 := Lib.hid ho3; have HB3 := Lib.hid (newT HB2.out hb3); clear ho3 hb3))
        refine (equal_words (n := 8 * m) (by omega) (wide_of_own (by have := HO3.out; rw [HN.out] at this; exact this)) (HT.out _ HB3.out).1.krow).mono ?_
        rintro e w4 ⟨rfl, n4, rfl⟩
        have hb4 : Below wr.heap.size wr (w3.drewN n4) := belowN HB3.out n4
        have HB4 := Lib.hid hb4; clear hb4
        go_wp2_with (first
          | (go_at_call 50; refine (HPD.out _ HB4.out).mono ?_; rintro e w5 ⟨v5, rfl, ho5, hb5⟩; have HO5 := Lib.hid ho5; have HB5 := Lib.hid (newT HB4.out hb5); clear ho5 hb5))
        refine (equal_pends (n := wait.length) (by omega) (wide_of_own HO5.out) (HT.out _ HB5.out).1.wrow).mono ?_
        rintro e w6 ⟨rfl, n6, rfl⟩
        have HF := Lib.hid (HT.out _ (belowN HB5.out n6)).1
        go_wp2_with fail
        exact HF.out
      · have hbe : ((at_ : Int) == 8 * (m : Int)) = true := by simp; omega
        have HL := Lib.hid (load_arg HS.out.dev m HN.out (by omega) at_ (by rw [HN.out]; omega) (by omega))
        go_wp2_with (first
          | (go_at_call 45; refine HL.out.mono ?_; rintro e w' ⟨rfl, hw'⟩; subst w')
          | (go_at_call 47; refine HWD.out.mono ?_; rintro e w1 ⟨v1, rfl, ho1, hb1⟩; have HO1 := Lib.hid ho1; have HB1 := Lib.hid hb1; clear ho1 hb1))
        refine (equal_words (n := 8 * m) (by omega) (wide_of_own (by have := HO1.out; rw [HN.out] at this; exact this)) (HT.out _ HB1.out).2).mono ?_
        rintro e w2 ⟨rfl, n2, rfl⟩
        have hb2 : Below wr.heap.size wr (w1.drewN n2) := belowN HB1.out n2
        have HB2 := Lib.hid hb2; clear hb2
        go_wp2_with (first
          | (go_at_call 48; refine (HKD.out _ HB2.out).mono ?_; rintro e w3 ⟨v3, rfl, ho3, hb3⟩; have HO3 := Lib.hid ho3; have HB3 := Lib.hid (newT HB2.out hb3); clear ho3 hb3))
        refine (equal_words (n := 8 * m) (by omega) (wide_of_own (by have := HO3.out; rw [HN.out] at this; exact this)) (HT.out _ HB3.out).1.krow).mono ?_
        rintro e w4 ⟨rfl, n4, rfl⟩
        have hb4 : Below wr.heap.size wr (w3.drewN n4) := belowN HB3.out n4
        have HB4 := Lib.hid hb4; clear hb4
        go_wp2_with (first
          | (go_at_call 50; refine (HPD.out _ HB4.out).mono ?_; rintro e w5 ⟨v5, rfl, ho5, hb5⟩; have HO5 := Lib.hid ho5; have HB5 := Lib.hid (newT HB4.out hb5); clear ho5 hb5))
        refine (equal_pends (n := wait.length) (by omega) (wide_of_own HO5.out) (HT.out _ HB5.out).1.wrow).mono ?_
        rintro e w6 ⟨rfl, n6, rfl⟩
        have HF := Lib.hid (HT.out _ (belowN HB5.out n6)).1
        go_wp2_with fail
        exact HF.out
end Go.Proofs.Ythjdpcgkkmfodaa.Pend
