/- TopPended: the law's function, walked. -/
import Derived.Test.YthjdpcgkkmfodaaPendR0
import Derived.Test.YthjdpcgkkmfodaaPendR1
import Derived.Test.YthjdpcgkkmfodaaPendR2
import Derived.Test.YthjdpcgkkmfodaaPendR3
import Derived.Test.YthjdpcgkkmfodaaPendR4
import Derived.Test.YthjdpcgkkmfodaaPendR5
import Derived.Test.YthjdpcgkkmfodaaPendR6
import Derived.Test.YthjdpcgkkmfodaaPendR7
namespace Go.Proofs.Ythjdpcgkkmfodaa.Pend
open Go.RowKit Go.Proofs.Ythjdpcgkkmfodaa.Base
set_option linter.unusedVariables false
set_option linter.unusedSimpArgs false

set_option maxRecDepth 100000 in
set_option maxHeartbeats 4000000 in
theorem pended_any (lines len cap : Nat) (ao : Option Addr) (X : List Nat) (ko : Option Addr) (keep : List Bool) (kcap : Nat) (w : World) (hlines : lines ≤ 255) (hlen : len ≤ 1000) (hkl : keep.length ≤ 1000)
    (hao : ao = none → len = 0) (hX : X.length = len * 3) (hXb : ∀ x ∈ X, x ≤ 255) (hc : ∀ ad, ao = some ad → ∀ (j x : Nat), X[j]? = some x → w.cell? (ad.add j) = some (.int .u8 (x : Int)))
    (hko : (ko = none → keep = []) ∧ (ko = none → kcap = 0) ∧ (∀ a, ko = some a → 0 < keep.length → a.block < w.heap.size) ∧ ∀ a, ko = some a → ∀ j y, keep[j]? = some y → w.cell? (a.add j) = some (.bool y)) :
    Calls Try.prog 25 #[.int .u8 lines, .slice ao len cap, .slice ko keep.length kcap] w (New w (.bool true)) := by
  obtain ⟨i0, hi, iz0, iz1, iz2⟩ := info_parts info81
  obtain ⟨m, hm, hm4, hmq⟩ : ∃ m : Nat, 0 < m ∧ m ≤ 4 ∧ 1 + (lines : Int) % 4 = (m : Int) := ⟨1 + lines % 4, by omega, by omega, by simp⟩
  have HX := Lib.hid hX; have HXB := Lib.hid hXb; have HC := Lib.hid hc; have HKO := Lib.hid hko; have HAO := Lib.hid hao; clear hX hXb hc hko hao
  have HNEW := Lib.hid (new_any m w hm (by omega))
  have hmk : ∀ w : World, (Instr.makeSlice 79 (.int .i64 (8 * (m : Int))) (.int .i64 (8 * (m : Int)))).run Try.prog w = .ok (.slice (some ⟨w.heap.size, 0, none⟩) (8 * m) (8 * m)) (w.alloc (.cells (madeCells #[Value.int .u64 0] (8 * m)) 81)) := by
    intro w
    have h := run_make (P := Try.prog) w 79 81 i0 (.int .u64 0) Try.underlying79 hi iz0 .i64 .i64 (8 * (m : Int)) (8 * (m : Int)) (by omega) (Int.le_refl _) (by rw [iz2]; omega) (by omega)
    rw [iz1, show (8 * (m : Int)).toNat = 8 * m by omega, Nat.mul_one] at h; exact h
  have hcs : (madeCells #[Value.int .u64 0] (8 * m)).toList = words (List.replicate (8 * m) 0) := by
    exact (toList_madeCells_one (.int .u64 0) (8 * m)).trans (by simp [words])
  have hown : ∀ w : World, (w.alloc (.cells (madeCells #[Value.int .u64 0] (8 * m)) 81)).ownsRow w.heap.size 81 1 (.slice (some ⟨w.heap.size, 0, none⟩) (8 * m) (8 * m)) (8 * m) (words (List.replicate (8 * m) 0)) := fun w =>
    own_lit _ _ _ _ rfl hcs.symm (Nat.le_refl _) (by unfold maxLen; omega) (by rw [← Array.length_toList, hcs, words_len, List.length_replicate, Nat.mul_one])
  have HOWN := Lib.hid hown; clear hown hcs
  go_enter Try.func25, Try.ntmps25
  go_wp2_with (first
    | (go_at_call 36; refine HNEW.out.mono ?_; rintro e w1 ⟨L, hn, rfl, hdev, hb⟩; have HN := Lib.hid hn; have HD := Lib.hid hdev; have HB := Lib.hid hb; have HLI := Lib.hid (lines_any hdev (by rw [hn]; omega)); rw [hn, show 8 * m / 8 = m by omega] at HLI; clear hn hdev hb; dsimp only)
    | (go_at_call 37; refine HLI.out.mono ?_; rintro e w' ⟨rfl, hw'⟩; subst w'; dsimp only))
  have hS0 : St w m L w1.heap.size (8 * m) (.slice none 0 0) (.slice none 0 0) (List.replicate (8 * m) 0) (List.replicate (8 * m) 0) [] (List.replicate (8 * m) 0) [] (w1.alloc (.cells (madeCells #[Value.int .u64 0] (8 * m)) 81)) := by
    have hs := HB.out.size
    refine ⟨HD.out.only (S := fun _ => False) ((Only.refl _ _).alloc _) (fun _ _ h => h), (wide_of_own (HOWN.out w1)).weaken hs, wide_nil _ _ _ _, fun hf => ?_, fun k hk => by simp [Value.ownBlock] at hk, HB.out.alloc hs _, HN.out⟩
    have := (HD.out.lt _ hf).2; omega
  have hF0 : Fin w m L w1.heap.size (8 * m) 0 (.slice none 0 0) (w1.alloc (.cells (madeCells #[Value.int .u64 0] (8 * m)) 81)) := ⟨_, _, _, _, Hand.zero _, hS0⟩
  have HF0 := Lib.hid hF0
  generalize w1.alloc (.cells (madeCells #[Value.int .u64 0] (8 * m)) 81) = W1 at HF0 hS0 hF0 ⊢
  generalize w1.heap.size = kb at HF0 hS0 hF0 ⊢
  clear hmk HOWN HD HB HLI HNEW hS0 hF0 hi iz0 iz1 iz2
  have HMQ := Lib.hid hmq; clear hmq
  go_wp2_with fail
  go_loopw [11, 56] (fun v i wr => ∃ k : Nat, k ≤ len ∧ i = .int .i64 k ∧ Fin w m L kb (8 * m) k v wr) (fun _ i _ => len - (intOf i).toNat)
  case atStart => exact ⟨0, by omega, rfl, HF0.out⟩
  case round =>
    clear HF0
    obtain ⟨k, hk, rfl, wv, kept, now, wait, hH, hS⟩ := hrel
    by_cases hlt : k < len
    · obtain ⟨ad, had⟩ : ∃ ad, ao = some ad := by
        cases ao with
        | none => have := HAO.out rfl; omega
        | some ad => exact ⟨ad, rfl⟩
      subst had
      have hXl := HX.out
      have get : ∀ j, j < 3 → ∃ x : Nat, x ≤ 255 ∧ wr.cell? (ad.add (k * 3 + j)) = some (.int .u8 (x : Int)) := by
        intro j hj
        have hj2 : k * 3 + j < X.length := by omega
        have hc0 := HC.out ad rfl (k * 3 + j) X[k * 3 + j] (by simp)
        exact ⟨X[k * 3 + j], HXB.out _ (List.getElem_mem hj2), by rw [hS.below.cell (World.block_lt_of_cell? w _ hc0)]; exact hc0⟩
      obtain ⟨x0, b0, e0⟩ := get 0 (by omega)
      obtain ⟨x1, b1, e1⟩ := get 1 (by omega)
      obtain ⟨x2, b2, e2⟩ := get 2 (by omega)
      rw [Nat.add_zero] at e0
      clear get
      rcases (show x0 % 8 = 0 ∨ x0 % 8 = 1 ∨ x0 % 8 = 2 ∨ x0 % 8 = 3 ∨ x0 % 8 = 4 ∨ x0 % 8 = 5 ∨ x0 % 8 = 6 ∨ x0 % 8 = 7 from by omega) with hx | hx | hx | hx | hx | hx | hx | hx
      · refine round_0 _ _ _ _ _ _ _ _ _ _ _ _ _ _ _ _ _ _ _ _ _ _ _ _ _ _ _ _ _ _ _ _ _ _ _ _ _ _ _ _ _ _ _ _ _ _ _ _ _ _ _ _ _ _ _ _ _ _ _ _ _ _ _ _ _ _ _ _ _ _ _ _ _ _ _ _ _ _ _ _ _ _ _ _ _ _ _ _ _ _ _ _ _ _ _ _ _ _ _ _ _ _ _ _ _ _ _ _ _ _ _ _ _ _ _ _ _ _ _ _ _ _ _ _ _ _ _ _ _ _ _ _ _ _ _ _ _ _ _ _ _ _ _ _ _ _ _ _ _ _ _ _ _ _ _ _ _ _ _ _ _ _ _ _ _ _ _ _ _ _ _ _ _ _ _ _ _ _ _ _ _ _ _ _ _ _ _ _ _ _ _ _ _ _ _ _ _ _ _ _ _ _ _ _ _ _ _ _ _ _ _ _ _ _ _ _ _ _ _ _ _ _ _ _ _ _ _ _ _ _ _ _ _ _ _ _ _ _ _ _ _ _ _ _ _ _ _ _ _ _ _ _ _ _ _ _ _ _ _ _ _ _ _ hm hm4 hlen hlt hkl hH hS e0 e1 e2 b0 b1 b2 HKO.out.1 HKO.out.2.1 HKO.out.2.2.1 HKO.out.2.2.2 hx ?_
        intro v6 v11 v12 v13 v14 v15 v16 v17 v18 v19 v20 v22 v23 v24 v25 v27 v28 v29 v56 v57 v58 v59 v60 v61 v62 v63 v64 v65 v66 v67 v68 v69 v70 v71 v72 v73 v74 v75 v76 v77 v78 v79 v80 v81 v82 v83 v84 v85 v86 v87 v88 v89 v90 v91 v92 v93 v94 v95 v96 v97 v98 v99 v100 v101 v102 v103 v104 v105 v106 v107 v108 v109 v110 v111 v112 v113 v114 v115 v116 v117 v118 v119 v120 v121 v122 v123 v124 v125 v126 v127 v128 v129 v130 v131 v132 v133 v134 v135 v136 v137 v138 v139 v140 v141 v142 v143 v144 v145 v146 v147 v148 v149 v150 v151 v152 v153 v154 v155 v156 v157 v158 v159 v160 v161 v162 v163 v164 v165 v166 v167 v168 v169 v170 v171 v172 v173 v174 v175 v176 v177 v178 v179 v180 v181 v182 v183 v184 v185 v186 v187 v188 v189 v190 v191 v192 v193 v194 v195 v196 v197 v198 v199 v200 v201 v202 v203 v204 v205 v206 v207 v208 v209 v210 v211 v212 v213 v214 v215 v216 v217 v218 v219 v220 v221 v222 v223 v224 v225 v226 v227 v228 v229 v230 v231 v232 v233 v234 v235 v236 v237 v238 v239 v240 v241 v242 v243 v244 v245 v246 v247 v248 v249 v250 v251 v252 v253 v254 v255 v256 v257 v258 v259 v260 v261 v262 v263 v264 v265 v266 v267 v268 v269 v270 w' hv
        obtain ⟨rfl, hF⟩ := hv
        dsimp only
        go_roundw
        case rel => exact ⟨k + 1, by omega, rfl, hF⟩
        case measure => simp [intOf]; omega
      · refine round_1 _ _ _ _ _ _ _ _ _ _ _ _ _ _ _ _ _ _ _ _ _ _ _ _ _ _ _ _ _ _ _ _ _ _ _ _ _ _ _ _ _ _ _ _ _ _ _ _ _ _ _ _ _ _ _ _ _ _ _ _ _ _ _ _ _ _ _ _ _ _ _ _ _ _ _ _ _ _ _ _ _ _ _ _ _ _ _ _ _ _ _ _ _ _ _ _ _ _ _ _ _ _ _ _ _ _ _ _ _ _ _ _ _ _ _ _ _ _ _ _ _ _ _ _ _ _ _ _ _ _ _ _ _ _ _ _ _ _ _ _ _ _ _ _ _ _ _ _ _ _ _ _ _ _ _ _ _ _ _ _ _ _ _ _ _ _ _ _ _ _ _ _ _ _ _ _ _ _ _ _ _ _ _ _ _ _ _ _ _ _ _ _ _ _ _ _ _ _ _ _ _ _ _ _ _ _ _ _ _ _ _ _ _ _ _ _ _ _ _ _ _ _ _ _ _ _ _ _ _ _ _ _ _ _ _ _ _ _ _ _ _ _ _ _ _ _ _ _ _ _ _ _ _ _ _ _ _ _ _ _ _ _ _ hm hm4 hlen hlt hkl hH hS e0 e1 e2 b0 b1 b2 HKO.out.1 HKO.out.2.1 HKO.out.2.2.1 HKO.out.2.2.2 hx ?_
        intro v6 v11 v12 v13 v14 v15 v16 v17 v18 v19 v20 v22 v23 v24 v25 v27 v28 v29 v56 v57 v58 v59 v60 v61 v62 v63 v64 v65 v66 v67 v68 v69 v70 v71 v72 v73 v74 v75 v76 v77 v78 v79 v80 v81 v82 v83 v84 v85 v86 v87 v88 v89 v90 v91 v92 v93 v94 v95 v96 v97 v98 v99 v100 v101 v102 v103 v104 v105 v106 v107 v108 v109 v110 v111 v112 v113 v114 v115 v116 v117 v118 v119 v120 v121 v122 v123 v124 v125 v126 v127 v128 v129 v130 v131 v132 v133 v134 v135 v136 v137 v138 v139 v140 v141 v142 v143 v144 v145 v146 v147 v148 v149 v150 v151 v152 v153 v154 v155 v156 v157 v158 v159 v160 v161 v162 v163 v164 v165 v166 v167 v168 v169 v170 v171 v172 v173 v174 v175 v176 v177 v178 v179 v180 v181 v182 v183 v184 v185 v186 v187 v188 v189 v190 v191 v192 v193 v194 v195 v196 v197 v198 v199 v200 v201 v202 v203 v204 v205 v206 v207 v208 v209 v210 v211 v212 v213 v214 v215 v216 v217 v218 v219 v220 v221 v222 v223 v224 v225 v226 v227 v228 v229 v230 v231 v232 v233 v234 v235 v236 v237 v238 v239 v240 v241 v242 v243 v244 v245 v246 v247 v248 v249 v250 v251 v252 v253 v254 v255 v256 v257 v258 v259 v260 v261 v262 v263 v264 v265 v266 v267 v268 v269 v270 w' hv
        obtain ⟨rfl, hF⟩ := hv
        dsimp only
        go_roundw
        case rel => exact ⟨k + 1, by omega, rfl, hF⟩
        case measure => simp [intOf]; omega
      · refine round_2 _ _ _ _ _ _ _ _ _ _ _ _ _ _ _ _ _ _ _ _ _ _ _ _ _ _ _ _ _ _ _ _ _ _ _ _ _ _ _ _ _ _ _ _ _ _ _ _ _ _ _ _ _ _ _ _ _ _ _ _ _ _ _ _ _ _ _ _ _ _ _ _ _ _ _ _ _ _ _ _ _ _ _ _ _ _ _ _ _ _ _ _ _ _ _ _ _ _ _ _ _ _ _ _ _ _ _ _ _ _ _ _ _ _ _ _ _ _ _ _ _ _ _ _ _ _ _ _ _ _ _ _ _ _ _ _ _ _ _ _ _ _ _ _ _ _ _ _ _ _ _ _ _ _ _ _ _ _ _ _ _ _ _ _ _ _ _ _ _ _ _ _ _ _ _ _ _ _ _ _ _ _ _ _ _ _ _ _ _ _ _ _ _ _ _ _ _ _ _ _ _ _ _ _ _ _ _ _ _ _ _ _ _ _ _ _ _ _ _ _ _ _ _ _ _ _ _ _ _ _ _ _ _ _ _ _ _ _ _ _ _ _ _ _ _ _ _ _ _ _ _ _ _ _ _ _ _ _ _ _ _ _ _ hm hm4 hlen hlt hkl hH hS e0 e1 e2 b0 b1 b2 HKO.out.1 HKO.out.2.1 HKO.out.2.2.1 HKO.out.2.2.2 hx ?_
        intro v6 v11 v12 v13 v14 v15 v16 v17 v18 v19 v20 v22 v23 v24 v25 v27 v28 v29 v56 v57 v58 v59 v60 v61 v62 v63 v64 v65 v66 v67 v68 v69 v70 v71 v72 v73 v74 v75 v76 v77 v78 v79 v80 v81 v82 v83 v84 v85 v86 v87 v88 v89 v90 v91 v92 v93 v94 v95 v96 v97 v98 v99 v100 v101 v102 v103 v104 v105 v106 v107 v108 v109 v110 v111 v112 v113 v114 v115 v116 v117 v118 v119 v120 v121 v122 v123 v124 v125 v126 v127 v128 v129 v130 v131 v132 v133 v134 v135 v136 v137 v138 v139 v140 v141 v142 v143 v144 v145 v146 v147 v148 v149 v150 v151 v152 v153 v154 v155 v156 v157 v158 v159 v160 v161 v162 v163 v164 v165 v166 v167 v168 v169 v170 v171 v172 v173 v174 v175 v176 v177 v178 v179 v180 v181 v182 v183 v184 v185 v186 v187 v188 v189 v190 v191 v192 v193 v194 v195 v196 v197 v198 v199 v200 v201 v202 v203 v204 v205 v206 v207 v208 v209 v210 v211 v212 v213 v214 v215 v216 v217 v218 v219 v220 v221 v222 v223 v224 v225 v226 v227 v228 v229 v230 v231 v232 v233 v234 v235 v236 v237 v238 v239 v240 v241 v242 v243 v244 v245 v246 v247 v248 v249 v250 v251 v252 v253 v254 v255 v256 v257 v258 v259 v260 v261 v262 v263 v264 v265 v266 v267 v268 v269 v270 w' hv
        obtain ⟨rfl, hF⟩ := hv
        dsimp only
        go_roundw
        case rel => exact ⟨k + 1, by omega, rfl, hF⟩
        case measure => simp [intOf]; omega
      · refine round_3 _ _ _ _ _ _ _ _ _ _ _ _ _ _ _ _ _ _ _ _ _ _ _ _ _ _ _ _ _ _ _ _ _ _ _ _ _ _ _ _ _ _ _ _ _ _ _ _ _ _ _ _ _ _ _ _ _ _ _ _ _ _ _ _ _ _ _ _ _ _ _ _ _ _ _ _ _ _ _ _ _ _ _ _ _ _ _ _ _ _ _ _ _ _ _ _ _ _ _ _ _ _ _ _ _ _ _ _ _ _ _ _ _ _ _ _ _ _ _ _ _ _ _ _ _ _ _ _ _ _ _ _ _ _ _ _ _ _ _ _ _ _ _ _ _ _ _ _ _ _ _ _ _ _ _ _ _ _ _ _ _ _ _ _ _ _ _ _ _ _ _ _ _ _ _ _ _ _ _ _ _ _ _ _ _ _ _ _ _ _ _ _ _ _ _ _ _ _ _ _ _ _ _ _ _ _ _ _ _ _ _ _ _ _ _ _ _ _ _ _ _ _ _ _ _ _ _ _ _ _ _ _ _ _ _ _ _ _ _ _ _ _ _ _ _ _ _ _ _ _ _ _ _ _ _ _ _ _ _ _ _ _ _ hm hm4 hlen hlt hkl hH hS e0 e1 e2 b0 b1 b2 HKO.out.1 HKO.out.2.1 HKO.out.2.2.1 HKO.out.2.2.2 hx ?_
        intro v6 v11 v12 v13 v14 v15 v16 v17 v18 v19 v20 v22 v23 v24 v25 v27 v28 v29 v56 v57 v58 v59 v60 v61 v62 v63 v64 v65 v66 v67 v68 v69 v70 v71 v72 v73 v74 v75 v76 v77 v78 v79 v80 v81 v82 v83 v84 v85 v86 v87 v88 v89 v90 v91 v92 v93 v94 v95 v96 v97 v98 v99 v100 v101 v102 v103 v104 v105 v106 v107 v108 v109 v110 v111 v112 v113 v114 v115 v116 v117 v118 v119 v120 v121 v122 v123 v124 v125 v126 v127 v128 v129 v130 v131 v132 v133 v134 v135 v136 v137 v138 v139 v140 v141 v142 v143 v144 v145 v146 v147 v148 v149 v150 v151 v152 v153 v154 v155 v156 v157 v158 v159 v160 v161 v162 v163 v164 v165 v166 v167 v168 v169 v170 v171 v172 v173 v174 v175 v176 v177 v178 v179 v180 v181 v182 v183 v184 v185 v186 v187 v188 v189 v190 v191 v192 v193 v194 v195 v196 v197 v198 v199 v200 v201 v202 v203 v204 v205 v206 v207 v208 v209 v210 v211 v212 v213 v214 v215 v216 v217 v218 v219 v220 v221 v222 v223 v224 v225 v226 v227 v228 v229 v230 v231 v232 v233 v234 v235 v236 v237 v238 v239 v240 v241 v242 v243 v244 v245 v246 v247 v248 v249 v250 v251 v252 v253 v254 v255 v256 v257 v258 v259 v260 v261 v262 v263 v264 v265 v266 v267 v268 v269 v270 w' hv
        obtain ⟨rfl, hF⟩ := hv
        dsimp only
        go_roundw
        case rel => exact ⟨k + 1, by omega, rfl, hF⟩
        case measure => simp [intOf]; omega
      · refine round_4 _ _ _ _ _ _ _ _ _ _ _ _ _ _ _ _ _ _ _ _ _ _ _ _ _ _ _ _ _ _ _ _ _ _ _ _ _ _ _ _ _ _ _ _ _ _ _ _ _ _ _ _ _ _ _ _ _ _ _ _ _ _ _ _ _ _ _ _ _ _ _ _ _ _ _ _ _ _ _ _ _ _ _ _ _ _ _ _ _ _ _ _ _ _ _ _ _ _ _ _ _ _ _ _ _ _ _ _ _ _ _ _ _ _ _ _ _ _ _ _ _ _ _ _ _ _ _ _ _ _ _ _ _ _ _ _ _ _ _ _ _ _ _ _ _ _ _ _ _ _ _ _ _ _ _ _ _ _ _ _ _ _ _ _ _ _ _ _ _ _ _ _ _ _ _ _ _ _ _ _ _ _ _ _ _ _ _ _ _ _ _ _ _ _ _ _ _ _ _ _ _ _ _ _ _ _ _ _ _ _ _ _ _ _ _ _ _ _ _ _ _ _ _ _ _ _ _ _ _ _ _ _ _ _ _ _ _ _ _ _ _ _ _ _ _ _ _ _ _ _ _ _ _ _ _ _ _ _ _ _ _ _ _ hm hm4 hlen hlt hkl hH hS e0 e1 e2 b0 b1 b2 HKO.out.1 HKO.out.2.1 HKO.out.2.2.1 HKO.out.2.2.2 hx ?_
        intro v6 v11 v12 v13 v14 v15 v16 v17 v18 v19 v20 v22 v23 v24 v25 v27 v28 v29 v56 v57 v58 v59 v60 v61 v62 v63 v64 v65 v66 v67 v68 v69 v70 v71 v72 v73 v74 v75 v76 v77 v78 v79 v80 v81 v82 v83 v84 v85 v86 v87 v88 v89 v90 v91 v92 v93 v94 v95 v96 v97 v98 v99 v100 v101 v102 v103 v104 v105 v106 v107 v108 v109 v110 v111 v112 v113 v114 v115 v116 v117 v118 v119 v120 v121 v122 v123 v124 v125 v126 v127 v128 v129 v130 v131 v132 v133 v134 v135 v136 v137 v138 v139 v140 v141 v142 v143 v144 v145 v146 v147 v148 v149 v150 v151 v152 v153 v154 v155 v156 v157 v158 v159 v160 v161 v162 v163 v164 v165 v166 v167 v168 v169 v170 v171 v172 v173 v174 v175 v176 v177 v178 v179 v180 v181 v182 v183 v184 v185 v186 v187 v188 v189 v190 v191 v192 v193 v194 v195 v196 v197 v198 v199 v200 v201 v202 v203 v204 v205 v206 v207 v208 v209 v210 v211 v212 v213 v214 v215 v216 v217 v218 v219 v220 v221 v222 v223 v224 v225 v226 v227 v228 v229 v230 v231 v232 v233 v234 v235 v236 v237 v238 v239 v240 v241 v242 v243 v244 v245 v246 v247 v248 v249 v250 v251 v252 v253 v254 v255 v256 v257 v258 v259 v260 v261 v262 v263 v264 v265 v266 v267 v268 v269 v270 w' hv
        obtain ⟨rfl, hF⟩ := hv
        dsimp only
        go_roundw
        case rel => exact ⟨k + 1, by omega, rfl, hF⟩
        case measure => simp [intOf]; omega
      · refine round_5 _ _ _ _ _ _ _ _ _ _ _ _ _ _ _ _ _ _ _ _ _ _ _ _ _ _ _ _ _ _ _ _ _ _ _ _ _ _ _ _ _ _ _ _ _ _ _ _ _ _ _ _ _ _ _ _ _ _ _ _ _ _ _ _ _ _ _ _ _ _ _ _ _ _ _ _ _ _ _ _ _ _ _ _ _ _ _ _ _ _ _ _ _ _ _ _ _ _ _ _ _ _ _ _ _ _ _ _ _ _ _ _ _ _ _ _ _ _ _ _ _ _ _ _ _ _ _ _ _ _ _ _ _ _ _ _ _ _ _ _ _ _ _ _ _ _ _ _ _ _ _ _ _ _ _ _ _ _ _ _ _ _ _ _ _ _ _ _ _ _ _ _ _ _ _ _ _ _ _ _ _ _ _ _ _ _ _ _ _ _ _ _ _ _ _ _ _ _ _ _ _ _ _ _ _ _ _ _ _ _ _ _ _ _ _ _ _ _ _ _ _ _ _ _ _ _ _ _ _ _ _ _ _ _ _ _ _ _ _ _ _ _ _ _ _ _ _ _ _ _ _ _ _ _ _ _ _ _ _ _ _ _ _ hm hm4 hlen hlt hkl hH hS e0 e1 e2 b0 b1 b2 HKO.out.1 HKO.out.2.1 HKO.out.2.2.1 HKO.out.2.2.2 hx ?_
        intro v6 v11 v12 v13 v14 v15 v16 v17 v18 v19 v20 v22 v23 v24 v25 v27 v28 v29 v56 v57 v58 v59 v60 v61 v62 v63 v64 v65 v66 v67 v68 v69 v70 v71 v72 v73 v74 v75 v76 v77 v78 v79 v80 v81 v82 v83 v84 v85 v86 v87 v88 v89 v90 v91 v92 v93 v94 v95 v96 v97 v98 v99 v100 v101 v102 v103 v104 v105 v106 v107 v108 v109 v110 v111 v112 v113 v114 v115 v116 v117 v118 v119 v120 v121 v122 v123 v124 v125 v126 v127 v128 v129 v130 v131 v132 v133 v134 v135 v136 v137 v138 v139 v140 v141 v142 v143 v144 v145 v146 v147 v148 v149 v150 v151 v152 v153 v154 v155 v156 v157 v158 v159 v160 v161 v162 v163 v164 v165 v166 v167 v168 v169 v170 v171 v172 v173 v174 v175 v176 v177 v178 v179 v180 v181 v182 v183 v184 v185 v186 v187 v188 v189 v190 v191 v192 v193 v194 v195 v196 v197 v198 v199 v200 v201 v202 v203 v204 v205 v206 v207 v208 v209 v210 v211 v212 v213 v214 v215 v216 v217 v218 v219 v220 v221 v222 v223 v224 v225 v226 v227 v228 v229 v230 v231 v232 v233 v234 v235 v236 v237 v238 v239 v240 v241 v242 v243 v244 v245 v246 v247 v248 v249 v250 v251 v252 v253 v254 v255 v256 v257 v258 v259 v260 v261 v262 v263 v264 v265 v266 v267 v268 v269 v270 w' hv
        obtain ⟨rfl, hF⟩ := hv
        dsimp only
        go_roundw
        case rel => exact ⟨k + 1, by omega, rfl, hF⟩
        case measure => simp [intOf]; omega
      · refine round_6 _ _ _ _ _ _ _ _ _ _ _ _ _ _ _ _ _ _ _ _ _ _ _ _ _ _ _ _ _ _ _ _ _ _ _ _ _ _ _ _ _ _ _ _ _ _ _ _ _ _ _ _ _ _ _ _ _ _ _ _ _ _ _ _ _ _ _ _ _ _ _ _ _ _ _ _ _ _ _ _ _ _ _ _ _ _ _ _ _ _ _ _ _ _ _ _ _ _ _ _ _ _ _ _ _ _ _ _ _ _ _ _ _ _ _ _ _ _ _ _ _ _ _ _ _ _ _ _ _ _ _ _ _ _ _ _ _ _ _ _ _ _ _ _ _ _ _ _ _ _ _ _ _ _ _ _ _ _ _ _ _ _ _ _ _ _ _ _ _ _ _ _ _ _ _ _ _ _ _ _ _ _ _ _ _ _ _ _ _ _ _ _ _ _ _ _ _ _ _ _ _ _ _ _ _ _ _ _ _ _ _ _ _ _ _ _ _ _ _ _ _ _ _ _ _ _ _ _ _ _ _ _ _ _ _ _ _ _ _ _ _ _ _ _ _ _ _ _ _ _ _ _ _ _ _ _ _ _ _ _ _ _ _ hm hm4 hlen hlt hkl hH hS e0 e1 e2 b0 b1 b2 HKO.out.1 HKO.out.2.1 HKO.out.2.2.1 HKO.out.2.2.2 hx ?_
        intro v6 v11 v12 v13 v14 v15 v16 v17 v18 v19 v20 v22 v23 v24 v25 v27 v28 v29 v56 v57 v58 v59 v60 v61 v62 v63 v64 v65 v66 v67 v68 v69 v70 v71 v72 v73 v74 v75 v76 v77 v78 v79 v80 v81 v82 v83 v84 v85 v86 v87 v88 v89 v90 v91 v92 v93 v94 v95 v96 v97 v98 v99 v100 v101 v102 v103 v104 v105 v106 v107 v108 v109 v110 v111 v112 v113 v114 v115 v116 v117 v118 v119 v120 v121 v122 v123 v124 v125 v126 v127 v128 v129 v130 v131 v132 v133 v134 v135 v136 v137 v138 v139 v140 v141 v142 v143 v144 v145 v146 v147 v148 v149 v150 v151 v152 v153 v154 v155 v156 v157 v158 v159 v160 v161 v162 v163 v164 v165 v166 v167 v168 v169 v170 v171 v172 v173 v174 v175 v176 v177 v178 v179 v180 v181 v182 v183 v184 v185 v186 v187 v188 v189 v190 v191 v192 v193 v194 v195 v196 v197 v198 v199 v200 v201 v202 v203 v204 v205 v206 v207 v208 v209 v210 v211 v212 v213 v214 v215 v216 v217 v218 v219 v220 v221 v222 v223 v224 v225 v226 v227 v228 v229 v230 v231 v232 v233 v234 v235 v236 v237 v238 v239 v240 v241 v242 v243 v244 v245 v246 v247 v248 v249 v250 v251 v252 v253 v254 v255 v256 v257 v258 v259 v260 v261 v262 v263 v264 v265 v266 v267 v268 v269 v270 w' hv
        obtain ⟨rfl, hF⟩ := hv
        dsimp only
        go_roundw
        case rel => exact ⟨k + 1, by omega, rfl, hF⟩
        case measure => simp [intOf]; omega
      · refine round_7 _ _ _ _ _ _ _ _ _ _ _ _ _ _ _ _ _ _ _ _ _ _ _ _ _ _ _ _ _ _ _ _ _ _ _ _ _ _ _ _ _ _ _ _ _ _ _ _ _ _ _ _ _ _ _ _ _ _ _ _ _ _ _ _ _ _ _ _ _ _ _ _ _ _ _ _ _ _ _ _ _ _ _ _ _ _ _ _ _ _ _ _ _ _ _ _ _ _ _ _ _ _ _ _ _ _ _ _ _ _ _ _ _ _ _ _ _ _ _ _ _ _ _ _ _ _ _ _ _ _ _ _ _ _ _ _ _ _ _ _ _ _ _ _ _ _ _ _ _ _ _ _ _ _ _ _ _ _ _ _ _ _ _ _ _ _ _ _ _ _ _ _ _ _ _ _ _ _ _ _ _ _ _ _ _ _ _ _ _ _ _ _ _ _ _ _ _ _ _ _ _ _ _ _ _ _ _ _ _ _ _ _ _ _ _ _ _ _ _ _ _ _ _ _ _ _ _ _ _ _ _ _ _ _ _ _ _ _ _ _ _ _ _ _ _ _ _ _ _ _ _ _ _ _ _ _ _ _ _ _ _ _ _ hm hm4 hlen hlt hkl hH hS e0 e1 e2 b0 b1 b2 HKO.out.1 HKO.out.2.1 HKO.out.2.2.1 HKO.out.2.2.2 hx ?_
        intro v6 v11 v12 v13 v14 v15 v16 v17 v18 v19 v20 v22 v23 v24 v25 v27 v28 v29 v56 v57 v58 v59 v60 v61 v62 v63 v64 v65 v66 v67 v68 v69 v70 v71 v72 v73 v74 v75 v76 v77 v78 v79 v80 v81 v82 v83 v84 v85 v86 v87 v88 v89 v90 v91 v92 v93 v94 v95 v96 v97 v98 v99 v100 v101 v102 v103 v104 v105 v106 v107 v108 v109 v110 v111 v112 v113 v114 v115 v116 v117 v118 v119 v120 v121 v122 v123 v124 v125 v126 v127 v128 v129 v130 v131 v132 v133 v134 v135 v136 v137 v138 v139 v140 v141 v142 v143 v144 v145 v146 v147 v148 v149 v150 v151 v152 v153 v154 v155 v156 v157 v158 v159 v160 v161 v162 v163 v164 v165 v166 v167 v168 v169 v170 v171 v172 v173 v174 v175 v176 v177 v178 v179 v180 v181 v182 v183 v184 v185 v186 v187 v188 v189 v190 v191 v192 v193 v194 v195 v196 v197 v198 v199 v200 v201 v202 v203 v204 v205 v206 v207 v208 v209 v210 v211 v212 v213 v214 v215 v216 v217 v218 v219 v220 v221 v222 v223 v224 v225 v226 v227 v228 v229 v230 v231 v232 v233 v234 v235 v236 v237 v238 v239 v240 v241 v242 v243 v244 v245 v246 v247 v248 v249 v250 v251 v252 v253 v254 v255 v256 v257 v258 v259 v260 v261 v262 v263 v264 v265 v266 v267 v268 v269 v270 w' hv
        obtain ⟨rfl, hF⟩ := hv
        dsimp only
        go_roundw
        case rel => exact ⟨k + 1, by omega, rfl, hF⟩
        case measure => simp [intOf]; omega
    · have hke : k = len := by omega
      have HE := Lib.hid hke
      have HBL := Lib.hid hS.below
      clear hke hS hH
      go_wp2_with fail
      go_ret
      exact ⟨rfl, HBL.out⟩
end Go.Proofs.Ythjdpcgkkmfodaa.Pend
