/- Conversions; lengths; the least and the greatest; new blocks of zeros. Built-in functions: append, copy, len, min, max. copy, len, min, max; new variables, new rows; struct and array values. New variables, new rows; struct and array values. Struct values, array values, slices' literals, make. Slices' literals; make. make; then all operations but the calls of functions. Every operation: what the evaluator says of it, holds of the machine. Every operation, together. States under other names: what they say, still holds. States of the evaluator and of the machine: when one tells the other. A heap of which only some blocks are looked at: what happens there, and what of the whole heap then holds. Values that only tell of names below a bound; an operation carried out where only some blocks are looked at. -/
import Derived.Test.YtlodiaflicooeaaGreatDoorEv1
import Derived.Laws.Append
import Derived.Laws.AppendOwn
set_option linter.unusedVariables false
set_option linter.unusedSimpArgs false
set_option linter.unusedSectionVars false
namespace Go.Ev
section
variable {R : Type} {P : Program} {o : Oper} {ρ : Operand → Value} {ι : Map} {I : Nat → Prop} {nx : Nat} {hp : Nat → Option Blk} {w : World} {K : AVal → Eff → Nat → Option R} {r : R}

theorem krel_bytes {s : Str} {cs : List Value} (h : krel ι (s.map fun b => Sc.int .u8 (b.toNat : Int)) cs) : cs = s.map fun b => Value.int .u8 (b.toNat : Int) := by
  unfold krel at h
  induction s generalizing cs with
  | nil => cases h; rfl
  | cons a s ih =>
    cases h with
    | cons h1 h2 => rw [h1.1.1, ih h2]; rfl
theorem bytes_krel (s : Str) : krel ι (s.map fun b => Sc.int .u8 (b.toNat : Int)) (s.map fun b => Value.int .u8 (b.toNat : Int)) := by
  unfold krel
  induction s with
  | nil => exact .nil
  | cons a s ih =>
    refine .cons ⟨⟨rfl, ?_⟩, rfl, rfl⟩ ih
    have := a.toNat_lt
    simp [fits, IntKind.min, IntKind.max, IntKind.signed, IntKind.bits]
    omega
theorem push_fold (s : Str) : ∀ acc : ByteArray, (s.map fun b => (b.toNat : Int)).foldl (fun r n => r.push (UInt8.ofNat n.toNat)) acc = ⟨(acc.data.toList ++ s).toArray⟩ := by
  induction s with
  | nil => intro acc; simp
  | cons a s ih =>
    intro acc
    rw [List.map_cons, List.foldl_cons, ih]
    simp

theorem freeze_rest (w : World) (a : Addr) (n : Nat) : (w.freeze a n).os = w.os ∧ (w.freeze a n).tape = w.tape ∧ (w.freeze a n).output = w.output := by
  unfold World.freeze
  split <;> exact ⟨rfl, rfl, rfl⟩
/-- A slice's row, or no row at all. -/
theorem row_any (hs : HSim ι I nx hp w) {x : Sc} {X : Value} (hX : srel ι x X) {e : TypeId} {row : Seg} (h : sliceRow P hp e x = some row) :
    ∃ oa c, X = .slice oa (lenG row) c ∧ lenG row ≤ maxL ∧ lenG row ≤ c ∧ row.wf ∧ row.cnt = lenG row ∧
      ∀ k, k ≤ lenG row → ∃ cs : List Value, (Builtin.firstCells row.width k X).run P w = .ok cs.toArray w ∧ krel ι (row.flat.take (k * row.width)) cs := by
  cases x with
  | slice n wd rr cap =>
    obtain ⟨q1, q2, q3, q4⟩ := slice_row (P := P) hs hX h
    obtain ⟨oa, c, e1, e2, e3, e4, e5, e6⟩ := q3.ex
    exact ⟨oa, c, e1, e3, e2, e4, e5, by rw [q1]; exact e6⟩
  | nilsl =>
    have hX' : X = .slice none 0 0 := hX
    subst hX'
    have hz : lenG row = 0 ∧ row.wf ∧ row.cnt = 0 ∧ row.flat = [] := by
      simp only [sliceRow] at h
      unfold rowKind at h
      split at h <;> first
        | (cases h; exact ⟨rfl, rfl, rfl, rfl⟩)
        | (split at h <;> first | (cases h; exact ⟨rfl, rfl, rfl, rfl⟩) | cases h)
        | cases h
    obtain ⟨z1, z2, z3, z4⟩ := hz
    refine ⟨none, 0, by rw [z1], by rw [z1]; exact Nat.zero_le _, by rw [z1]; exact Nat.le_refl _, z2, by rw [z1, z3], ?_⟩
    intro k hk
    exact ⟨[], rfl, by rw [z4, List.take_nil]; exact .nil⟩
  | _ => cases h
theorem row_all {row : Seg} (hw : row.wf) (hc : row.cnt = lenG row) (h1 : 0 < row.width) : row.flat.take (lenG row * row.width) = row.flat := by
  rw [List.take_of_length_le]
  rw [Seg.flat_len hw, size_cnt row h1, hc]
  exact Nat.le_refl _

theorem good_convert (hs : HSim ι I nx hp w) {src dst : TypeId} {xo : Operand} (hop : o.op = .convert src dst xo) {x : Sc} (hx : srel ι x (ρ xo)) (h : evConvert P src dst hp nx x K = some r) : Good P o ρ ι I nx hp w K r := by
  have hex : ∀ X w', (convert src dst (ρ xo)).run P w = .ok X w' → (execOp ρ o).run P w = .ok (.value X) w' := by
    intro X w' hX
    unfold execOp
    rw [hop]
    simp only [Sem.run_bind, hX, Result.andThen_ok, Sem.run_pure]
  unfold evConvert at h
  split at h
  · rename_i d k kn n hu1 hu2
    obtain ⟨hx1, _⟩ := hx
    refine good_pure hs h (x := .int k (cvtI k n)) ⟨rfl, fits_wrap _ _⟩ (hex _ _ ?_)
    unfold convert
    rw [Sem.run_bind, run_und hu1, Result.andThen_ok, Sem.run_bind, run_und hu2, Result.andThen_ok, hx1]
    rfl
  · rename_i d s hu1 hu2
    obtain ⟨hx1, hx2⟩ := hx
    refine good_pure hs h (x := .string ⟨s.toArray⟩) ⟨rfl, hx2⟩ (hex _ _ ?_)
    unfold convert
    rw [Sem.run_bind, run_und hu1, Result.andThen_ok, Sem.run_bind, run_und hu2, Result.andThen_ok, hx1]
    rfl
  · rename_i d e s hu1 hu2
    obtain ⟨hx1, hx2⟩ := hx
    split at h
    · rename_i hu3
      let cap := (Question.appendCap s.length 0 e).cut (w.tape w.drawn (.appendCap s.length 0 e))
      have hcap : s.length ≤ cap := by simp [cap, Question.cut]
      let C : Array Value := (s.map fun b => Value.int .u8 (b.toNat : Int)).toArray ++ Array.replicate (cap - s.length) (.int .u8 0)
      have hC : C.size = cap := by simp [C]; omega
      let w1 : World := { w.drew with heap := w.heap.push (.cells C e) }
      have hfl : flats [Seg.bytes s s.length] = s.map fun b => Sc.int .u8 (b.toNat : Int) := by rw [flats_one]; rfl
      have hrun : (convert src dst (ρ xo)).run P w = .ok (.slice (some ⟨w.heap.size, 0, none⟩) s.length cap) (w1.freeze ⟨w.heap.size, C.size, none⟩ 1) := by
        unfold convert
        rw [Sem.run_bind, run_und hu1, Result.andThen_ok, Sem.run_bind, run_und hu2, Result.andThen_ok, hx1]
        show (do match ← underlying e with
          | .int .u8 => Conv.stringToBytes e ⟨s.toArray⟩
          | .int .i32 => Conv.stringToRunes e ⟨s.toArray⟩
          | _ => stuck "Convert: string to a slice of what?" : Sem Value).run P w = _
        rw [Sem.run_bind, run_und hu3, Result.andThen_ok]
        show (Conv.stringToBytes e ⟨s.toArray⟩).run P w = _
        unfold Conv.stringToBytes
        rw [size_mk, Sem.run_bind, run_choose, if_neg (by simp [Question.forced]), Result.andThen_ok]
        have hmap : (⟨s.toArray⟩ : ByteArray).data.map (fun b => Value.int .u8 (b.toNat : Int)) = (s.map fun b => Value.int .u8 (b.toNat : Int)).toArray := by simp
        simp only [hmap, newRow, Sem.run_bind, run_newObj, Result.andThen_ok, Sem.run_pure, markStringish, run_shape]
        have hsh : World.shape? w1 w.heap.size = some (e, C.size) := by simp [World.shape?, w1]
        change ((match World.shape? w1 w.heap.size with
          | some (fst, n) => freeze { block := w.heap.size, off := n } 1
          | x => pure ()).run P w1).andThen _ = _
        rw [hsh]
        rfl
      have hheap : (w1.freeze ⟨w.heap.size, C.size, none⟩ 1).heap = w.heap.push (.cells C e (C.size, C.size + 1)) := by
        unfold World.freeze
        simp only [Nat.one_ne_zero, if_false, w1]
        apply Array.ext_getElem?
        intro i
        rw [Array.getElem?_modify, Array.getElem?_push, Array.getElem?_push]
        by_cases hi : w.heap.size = i
        · subst hi
          simp
        · have : i ≠ w.heap.size := fun e => hi e.symm
          simp [hi, this]
      refine good_new hs (g := [.bytes s s.length]) (wfs_cons.2 ⟨rfl, fun _ h => by cases h⟩) (C := C) (cap := cap) (wd := 1) ?_ (by omega) ?_ ?_ hheap ?_ ?_ ?_ h ?_ (hex _ _ hrun)
      · rw [hfl]; simp [hC]; omega
      · intro o ho; simp; omega
      · intro i x hxi
        rw [hfl] at hxi
        obtain ⟨v, a, b⟩ := krel_at (bytes_krel (ι := ι) s) i x hxi
        refine ⟨v, ?_, b⟩
        have hlt : i < (s.map fun b => Value.int .u8 (b.toNat : Int)).length := by
          rcases Nat.lt_or_ge i (s.map fun b => Value.int .u8 (b.toNat : Int)).length with hh | hh
          · exact hh
          · rw [List.getElem?_eq_none hh] at a; cases a
        simp only [C]
        rw [Array.getElem?_append_left (by simpa using hlt)]
        simpa using a
      · exact (freeze_rest w1 _ _).1
      · exact (freeze_rest w1 _ _).2.1
      · exact (freeze_rest w1 _ _).2.2
      · intro ι' _ h1
        refine ⟨_, _, _, _, rfl, hx2, by omega, hcap, by simp, h1, fun _ => rfl, ?_, .inr ⟨w.heap.size, rfl, rfl, fun _ => rfl⟩⟩
        rw [hfl]; simp
    · cases h
  · rename_i _ _ _ e hu1 hu2 _
    split at h
    · rename_i hu3
      split at h
      · rename_i s m hrow
        obtain ⟨oa, c, e1, e2, e3, e4, e5, e6'⟩ := row_any (P := P) hs hx hrow
        obtain ⟨cs, e6, e7⟩ := e6' _ (Nat.le_refl _)
        rw [row_all e4 e5 (by simp [Seg.width])] at e7
        have hcs := krel_bytes (s := s) e7
        have hlen : lenG (Seg.bytes s m) = s.length := rfl
        rw [hlen] at e1 e2 e6
        refine good_pure hs h (x := .string ⟨s.toArray⟩) ⟨rfl, e2⟩ (hex _ _ ?_)
        have h1 : (convert src dst (ρ xo)).run P w = (Conv.bytesToString (ρ xo)).run P w := by
          unfold convert
          rw [Sem.run_bind, run_und hu1, Result.andThen_ok, Sem.run_bind, run_und hu2, Result.andThen_ok, e1]
          show (do match ← underlying e with
            | .int .u8 => Conv.bytesToString (.slice oa s.length c)
            | .int .i32 => Conv.runesToString (.slice oa s.length c)
            | _ => stuck "Convert: a slice of what to string?" : Sem Value).run P w = _
          rw [Sem.run_bind, run_und hu3, Result.andThen_ok]
        rw [h1, e1]
        rw [e1] at e6
        cases oa with
        | none =>
          have e8 : (Builtin.firstCells 1 s.length (.slice none s.length c)).run P w = .ok #[] w := rfl
          rw [show (Seg.bytes s m).width = 1 from rfl, e8] at e6
          have : cs = [] := by
            have := e6
            injection this with a b
            simpa using a.symm
          rw [this] at hcs
          have : s = [] := by simpa using hcs.symm
          subst this
          rfl
        | some a =>
          have e8 : (loadCells a s.length).run P w = .ok ((s.map fun b => (b.toNat : Int)).map (Value.int .u8)).toArray w := by
            have e9 : (Builtin.firstCells 1 s.length (.slice (some a) s.length c)).run P w = (loadCells a s.length).run P w := by
              simp [Builtin.firstCells]
            rw [show (Seg.bytes s m).width = 1 from rfl, e9, hcs] at e6
            rw [e6]
            simp
          rw [run_bytesToString w a s.length c _ e8, push_fold]
          rfl
      · cases h
    · cases h
  · cases h
end
end Go.Ev

namespace Go.Ev
section
variable {R : Type} {P : Program} {o : Oper} {ρ : Operand → Value} {ι : Map} {I : Nat → Prop} {nx : Nat} {hp : Nat → Option Blk} {w : World} {K : AVal → Eff → Nat → Option R} {r : R}

theorem catG_spec {a b c : Seg} (ha : a.wf) (hb : b.wf) (h : catG a b = some c) :
    (setCnt c).wf ∧ (setCnt c).flat = a.flat ++ b.flat ∧ (setCnt c).width = a.width ∧ b.width = a.width ∧ lenG (setCnt c) = lenG a + lenG b ∧ (setCnt c).cnt = lenG (setCnt c) ∧ (setCnt c).size = (lenG a + lenG b) * a.width := by
  cases a <;> cases b <;> simp only [catG] at h <;> try (cases h; done)
  case ints.ints k xs n k' ys m =>
    split at h
    · rename_i hk
      have := beqK_eq hk; subst this
      cases h
      simp [setCnt, Seg.wf, Seg.flat, Seg.width, lenG, Seg.cnt, Seg.size]
    · cases h
  case bytes.bytes xs n ys m => cases h; simp [setCnt, Seg.wf, Seg.flat, Seg.width, lenG, Seg.cnt, Seg.size]
  case strs.strs xs n ys m => cases h; simp [setCnt, Seg.wf, Seg.flat, Seg.width, lenG, Seg.cnt, Seg.size]
  case recs.recs fs xs n fs' ys m =>
    split at h
    · rename_i hf
      subst hf
      cases h
      simp [setCnt, Seg.wf, Seg.flat, Seg.width, lenG, Seg.cnt, Seg.size]
    · cases h

theorem zeroW_spec {e : TypeId} {wd : Nat} (h : zeroW P e = some wd) : ∃ i z, P.info? e = some i ∧ i.zero = some z ∧ z.cells.size = wd ∧ i.size = wd ∧ cells P e = some wd := by
  unfold zeroW at h
  split at h
  · rename_i i hi
    split at h
    · rename_i z hz
      split at h
      · rename_i hc
        cases h
        exact ⟨i, z, hi, hz, beq_of hc, rfl, by simp [cells, hi]⟩
      · cases h
    · cases h
  · cases h
theorem run_info {t : TypeId} {i : TypeInfo} (h : P.info? t = some i) : (typeInfo t).run P w = .ok i w := by
  unfold typeInfo
  simp [h]
theorem run_zero {t : TypeId} {i : TypeInfo} {z : Value} (h : P.info? t = some i) (hz : i.zero = some z) : (zeroValue t).run P w = .ok z w := by
  unfold zeroValue
  rw [Sem.run_bind, run_info h, Result.andThen_ok, hz]
  rfl

theorem src_spec (hs : HSim ι I nx hp w) {x : Sc} {X : Value} (hX : srel ι x X) {e : TypeId} {row : Seg} (h : srcRow P hp e x = some row) :
    lenG row ≤ maxL ∧ row.wf ∧ row.cnt = lenG row ∧ (Builtin.lenOf X).run P w = .ok (lenG row) w ∧
    ∀ k, k ≤ lenG row → ∃ cs : List Value, (Builtin.firstCells row.width k X).run P w = .ok cs.toArray w ∧ krel ι (row.flat.take (k * row.width)) cs := by
  by_cases hstr : ∃ b, x = .str b
  · obtain ⟨b, rfl⟩ := hstr
    obtain ⟨rfl, h2⟩ := hX
    cases h
    refine ⟨h2, rfl, rfl, ?_, ?_⟩
    · show Result.ok (⟨b.toArray⟩ : ByteArray).size w = _
      rw [size_mk]; rfl
    · intro n hn
      refine ⟨(b.take n).map fun b => Value.int .u8 (b.toNat : Int), ?_, ?_⟩
      · show Result.ok _ w = _
        congr 1
        rw [extract_mk]
        simp
      · have := bytes_krel (ι := ι) (b.take n)
        simpa [Seg.flat, Seg.width, List.map_take] using this
  · have h' : sliceRow P hp e x = some row := by
      cases x <;> first | exact h | (exfalso; exact hstr ⟨_, rfl⟩)
    obtain ⟨oa, c, e1, e2, e3, e4, e5, e6⟩ := row_any (P := P) hs hX h'
    exact ⟨e2, e4, e5, by rw [e1]; rfl, e6⟩

/-- A name for a row that has nothing, and no block. -/
theorem HSim.none1 (h : HSim ι I nx hp w) (g : Segs) (hg : wfs g) (hl : (flats g).length = 0) (wd : Nat) :
    HSim (fun m => if m = nx then some ⟨none, 0, 0, 0, wd⟩ else ι m) I (nx + 1) (put1 hp nx (some ⟨true, g⟩)) w ∧ Map.le ι (fun m => if m = nx then some ⟨none, 0, 0, 0, wd⟩ else ι m) := by
  have hle : Map.le ι (fun m => if m = nx then some ⟨none, 0, 0, 0, wd⟩ else ι m) := fun n l hn => by
    by_cases hnx : n = nx
    · subst hnx; rw [(h.fresh n (Nat.le_refl _)).1] at hn; cases hn
    · simp [hnx, hn]
  refine ⟨⟨?_, ?_, ?_, h.bound⟩, hle⟩
  · intro n hn
    have hne : n ≠ nx := by omega
    simp only [hne, if_false, put1]
    exact h.fresh n (by omega)
  · intro n b hb
    by_cases hnx : n = nx
    · subst hnx
      rw [put1_same] at hb
      cases hb
      exact ⟨hg, ⟨none, 0, 0, 0, wd⟩, by simp, by simp [hl], by simp, by simp⟩
    · rw [put1_other hnx] at hb
      have ho := h.ok n b hb
      refine ⟨ho.wf, ?_⟩
      obtain ⟨l, h1, h2, h3, h4⟩ := ho.ex
      exact ⟨l, by simp [hnx, h1], h2, h3, fun k hk => let ⟨a, b', c⟩ := h4 k hk; ⟨a, b', c.mono hle rfl⟩⟩
  · intro m n a b x y k hne ha hb hr hx hy hxk hyk
    by_cases hm : m = nx
    · subst hm
      simp only [if_true] at hx
      cases hx; cases hxk
    · simp only [hm, if_false] at hx
      rw [put1_other hm] at ha
      by_cases hn : n = nx
      · subst hn
        simp only [if_true] at hy
        cases hy; cases hyk
      · simp only [hn, if_false] at hy
        rw [put1_other hn] at hb
        exact h.inj m n a b x y k hne ha hb hr hx hy hxk hyk

/-- A block goes on under another name. -/
theorem HSim.move (h : HSim ι I nx hp w) {n : Nat} {b : Blk} (hb : hp n = some b) (hrw : b.rw = true) {lo : Loc} (hlo : ι n = some lo) {k : Nat} (hk : lo.blk = some k)
    (g : Segs) (hg : wfs g) (lo' : Loc) (hlo' : lo'.blk = some k) (hlen : lo'.len = (flats g).length) (w' : World) (hsz : w'.heap.size = w.heap.size)
    (hother : ∀ j, j ≠ k → w'.heap[j]? = w.heap[j]?) (hhere : Holds ι w' k lo' (flats g)) :
    HSim (fun m => if m = nx then some lo' else ι m) I (nx + 1) (put1 (put1 hp nx (some ⟨true, g⟩)) n none) w' ∧ Map.le ι (fun m => if m = nx then some lo' else ι m) := by
  have hnlt := name_lt h hb
  have hle : Map.le ι (fun m => if m = nx then some lo' else ι m) := fun q l hn => by
    by_cases hnx : q = nx
    · subst hnx; rw [(h.fresh q (Nat.le_refl _)).1] at hn; cases hn
    · simp [hnx, hn]
  have key : ∀ q c, put1 (put1 hp nx (some ⟨true, g⟩)) n none q = some c → q ≠ n ∧ ((q = nx ∧ c = ⟨true, g⟩) ∨ (q ≠ nx ∧ hp q = some c)) := by
    intro q c hq
    by_cases h1 : q = n
    · subst h1; rw [put1_same] at hq; cases hq
    · rw [put1_other h1] at hq
      by_cases h2 : q = nx
      · subst h2; rw [put1_same] at hq; cases hq; exact ⟨h1, .inl ⟨rfl, rfl⟩⟩
      · rw [put1_other h2] at hq; exact ⟨h1, .inr ⟨h2, hq⟩⟩
  refine ⟨⟨?_, ?_, ?_, ?_⟩, hle⟩
  · intro q hq
    have h1 : q ≠ n := by omega
    have h2 : q ≠ nx := by omega
    rw [put1_other h1, put1_other h2]
    simp only [h2, if_false]
    exact h.fresh q (by omega)
  · intro q c hc
    obtain ⟨hqn, ⟨rfl, rfl⟩ | ⟨hqx, hq⟩⟩ := key q c hc
    · refine ⟨hg, lo', by simp, hlen, by rw [hlo']; simp, ?_⟩
      intro j hj
      rw [hlo'] at hj; cases hj
      refine ⟨fun _ => ?_, by simp, hhere.mono hle rfl⟩
      obtain ⟨l, h1, h2, h3, h4⟩ := (h.ok n b hb).ex
      rw [hlo] at h1; cases h1
      exact (h4 _ hk).1 hrw
    · have ho := h.ok q c hq
      refine ⟨ho.wf, ?_⟩
      obtain ⟨l, h1, h2, h3, h4⟩ := ho.ex
      refine ⟨l, by simp [hqx, h1], h2, h3, fun j hj => ?_⟩
      obtain ⟨a, b', d⟩ := h4 j hj
      refine ⟨a, b', d.mono hle (hother j fun he => ?_)⟩
      subst he
      exact h.inj q n c b l lo j hqn hq hb (.inr hrw) h1 hlo hj hk
  · intro m p a c x y j hne ha hc hr hx hy hxj hyj
    obtain ⟨hmn, hm⟩ := key m a ha
    obtain ⟨hpn, hpp⟩ := key p c hc
    rcases hm with ⟨rfl, rfl⟩ | ⟨hmx, hm⟩
    · rcases hpp with ⟨rfl, _⟩ | ⟨hpx, hpp⟩
      · exact hne rfl
      · simp only [if_true] at hx
        cases hx
        simp only [hpx, if_false] at hy
        rw [hlo'] at hxj; cases hxj
        exact h.inj p n c b y lo _ hpn hpp hb (.inr hrw) hy hlo hyj hk
    · simp only [hmx, if_false] at hx
      rcases hpp with ⟨rfl, rfl⟩ | ⟨hpx, hpp⟩
      · simp only [if_true] at hy
        cases hy
        rw [hlo'] at hyj; cases hyj
        exact h.inj m n a b x lo _ hmn hm hb (.inr hrw) hx hlo hxj hk
      · simp only [hpx, if_false] at hy
        exact h.inj m p a c x y j hne hm hpp hr hx hy hxj hyj
  · intro j hj; rw [hsz]; exact h.bound j hj

theorem exec_builtin {c : Call} (ho : o.op = .call c) {b : Builtin} (hb : c.callee = .builtin b) :
    ∃ cs, (execOp ρ o).run P w = (builtin b c.argTypes o.type cs (c.args.map ρ)).run P w := by
  unfold execOp
  rw [ho]
  simp only [resolve, hb, Sem.run_bind, Sem.run_pure, Result.andThen_ok, invoke]
  exact ⟨_, rfl⟩

/-- What the machine's append comes to. -/
theorem append_run {t u ty e : TypeId} {d : TypeDesc} (ht : P.underlying t = some (.slice e)) (hu : P.underlying u = some d) (hd : ∀ k, d ≠ .int k) {i : TypeInfo} {z : Value} (hi : P.info? e = some i) (hz : i.zero = some z)
    (hby : 0 < i.bytes) {oa : Option Addr} {l c m : Nat} {X : Value} (hX : (Builtin.lenOf X).run P w = .ok m w) {new0 new old : List Value} (hnew0 : (Builtin.firstCells i.size m X).run P w = .ok new0.toArray w) (hnew : (Builtin.firstCells i.size m X).run P w.drew = .ok new.toArray w.drew)
    (hold : (Builtin.firstCells i.size l (.slice oa l c)).run P w.drew = .ok old.toArray w.drew) (hbound : (l + m) * i.bytes ≤ 140737488355328) :
    (l + m ≤ c → ∀ w', (match oa with
        | some a => (storeCells (a.add (l * i.size)) new0 : Sem Unit)
        | none => pure ()).run P w = .ok () w' → (Builtin.append_ #[t, u] ty #[.slice oa l c, X]).run P w = .ok (.slice oa (l + m) c) w') ∧
    (¬ l + m ≤ c → ∃ nc, l + m ≤ nc ∧ (Builtin.append_ #[t, u] ty #[.slice oa l c, X]).run P w =
      .ok (.slice (some ⟨w.heap.size, 0, none⟩) (l + m) nc) (w.drew.alloc (.cells (old.toArray ++ new.toArray ++ Builtin.zeroCells z.cells (nc - (l + m))) e))) := by
  have hsz : (sizeOf e).run P w = .ok i.size w := cells_run (by simp [cells, hi])
  have hdm : (match d with | .int _ => true | _ => false) = false := by cases d <;> first | rfl | exact (hd _ rfl).elim
  constructor
  · intro hle w' hst
    cases oa with
    | none =>
      simp only [Sem.run_pure, Result.ok.injEq, true_and] at hst
      subst hst
      simp [Builtin.append_, run_und ht, run_und hu, hdm, hsz, hX, hle, hnew0]
    | some a =>
      simp [Builtin.append_, run_und ht, run_und hu, hdm, hsz, hX, hle, hnew0]
      simp at hst
      rw [hst]
      simp
  · intro hgt
    have h63' : ¬ ((9223372036854775807 < (l : Int) + (m : Int)) ∧ i.bytes = 0) := by omega
    have h48 := growslice_fits (bytes := i.bytes) (show c < l + m by omega) hbound
    have h48' : ¬ (281474976710656 < Builtin.nextslicecap (l + m) c * i.bytes) := by omega
    refine ⟨grownCap w (l + m) c e, grownCap_ge _ _ _ _, ?_⟩
    simp [Builtin.append_, run_und ht, run_und hu, hdm, hsz, hX, hgt, h63', h48', typeInfo, hi, zeroValue, hz, Question.forced, hold, hnew, newRow, grownCap]
    have hap : old.toArray ++ new.toArray = (old ++ new).toArray := by simp
    rw [← Array.append_assoc, hap]

theorem good_append (hs : HSim ι I nx hp w) {c : Call} (ho : o.op = .call c) (hcb : c.callee = .builtin .append) {t u : TypeId} (hat : c.argTypes = #[t, u]) {so xo : Operand} (hargs : c.args = #[so, xo]) {d : TypeDesc} (hu : P.underlying u = some d) (hd : ∀ k, d ≠ .int k)
    {s x : Sc} (hsr : srel ι s (ρ so)) (hxr : srel ι x (ρ xo)) (h : evAppend P hp nx t s x K = some r) : Good P o ρ ι I nx hp w K r := by
  have hex : ∀ X w', (Builtin.append_ #[t, u] o.type #[ρ so, ρ xo]).run P w = .ok X w' → (execOp ρ o).run P w = .ok (.value X) w' := by
    intro X w' hX
    obtain ⟨cs, he⟩ := exec_builtin (P := P) (ρ := ρ) (w := w) ho hcb
    rw [he, hat, hargs]
    simp [builtin, hX]
  unfold evAppend at h
  split at h
  · cases h
  · rename_i e he
    have ht : P.underlying t = some (.slice e) := by
      unfold elemOf' at he
      split at he
      · rename_i hu; cases he; exact hu
      · cases he
    split at h
    · rename_i a b by_ wd ha hb hby hzw
      obtain ⟨i, z, hi, hz, hzs, hsz, hcell⟩ := zeroW_spec hzw
      split at h
      · rename_i cc hcat hcond
        simp only [Bool.and_eq_true] at hcond
        obtain ⟨⟨q1, q2⟩, q3⟩ := hcond
        have hw0 : 0 < wd := by simpa [Nat.blt_eq] using q1
        have hby0 : 0 < by_ := by simpa [Nat.blt_eq] using q2
        have haw := beq_of q3
        have hbi : i.bytes = by_ := by unfold bytesOf at hby; rw [hi] at hby; simpa using hby
        obtain ⟨oa, cap, a1, a2, a3, a4, a5, a6⟩ := row_any (P := P) hs hsr ha
        obtain ⟨b1, b2, b3, b4, b5⟩ := src_spec (P := P) hs hxr hb
        obtain ⟨g1, g2, g3, g4, g5, g6, g7⟩ := catG_spec a4 b2 hcat
        obtain ⟨oa2, cap2, a1', _, _, _, _, a6'⟩ := row_any (P := P) (w := w.drew) (hs.world rfl) hsr ha
        obtain ⟨_, _, _, _, b5'⟩ := src_spec (P := P) (w := w.drew) (hs.world rfl) hxr hb
        obtain ⟨old, o1, o2⟩ := a6' _ (Nat.le_refl _)
        obtain ⟨new, n1, n2⟩ := b5' _ (Nat.le_refl _)
        obtain ⟨new0, m1, m2⟩ := b5 _ (Nat.le_refl _)
        rw [row_all a4 a5 (by omega)] at o2
        rw [row_all b2 b3 (by omega)] at n2 m2
        rw [haw, a1, ← hsz] at o1
        rw [g4, haw, ← hsz] at n1 m1
        have hgo : ∀ ef : Eff, gd (appB (lenG a) (lenG b) by_) (K (.s (.slice nx wd none none)) ((nx, some ⟨true, [setCnt cc]⟩) :: ef) 1) = some r →
            (lenG a + lenG b) * i.bytes ≤ 140737488355328 ∧ K (.s (.slice nx wd none none)) ((nx, some ⟨true, [setCnt cc]⟩) :: ef) 1 = some r := by
          intro ef hh
          obtain ⟨p1, p2⟩ := gd_some hh
          exact ⟨by rw [hbi]; simpa [appB] using p1, p2⟩
        have hwfc : wfs [setCnt cc] := wfs_cons.2 ⟨g1, fun _ h => by cases h⟩
        have hfl : flats [setCnt cc] = a.flat ++ b.flat := by rw [flats_one, g2]
        have hfll : (flats [setCnt cc]).length = (lenG a + lenG b) * wd := by rw [flats_one, Seg.flat_len g1, g7, haw]
        have hmaxl : (lenG a + lenG b) * i.bytes ≤ 140737488355328 → lenG a + lenG b ≤ maxL := by
          intro hh
          have := Nat.le_mul_of_pos_right (lenG a + lenG b) (show 0 < i.bytes by omega)
          simp only [maxL]; omega
        -- a new block
        have grow : ∀ (ef : Eff), (ef = [] ∨ ∃ n, n < nx ∧ ef = [(n, none)]) → (lenG a + lenG b) * i.bytes ≤ 140737488355328 → ¬ lenG a + lenG b ≤ cap → K (.s (.slice nx wd none none)) ((nx, some ⟨true, [setCnt cc]⟩) :: ef) 1 = some r → Good P o ρ ι I nx hp w K r := by
          intro ef hef hbd hgt hK
          obtain ⟨nc, e1, e2⟩ := (append_run (w := w) (P := P) (t := t) (u := u) (ty := o.type) ht hu hd hi hz (by omega) (X := ρ xo) b4 m1 n1 o1 hbd).2 hgt
          have hC : (old.toArray ++ new.toArray ++ Builtin.zeroCells z.cells (nc - (lenG a + lenG b))).size = nc * wd := by
            rw [Array.size_append, Array.size_append, size_zeroCells, hzs]
            have h1 := krel_len o2; have h2 := krel_len n2
            rw [Seg.flat_len a4, size_cnt a (by omega), a5, haw] at h1
            rw [Seg.flat_len b2, size_cnt b (by omega), b3, g4, haw] at h2
            simp only [List.size_toArray, h1, h2]
            rw [← Nat.add_mul, ← Nat.add_mul]
            congr 1; omega
          have hcells : ∀ (j : Nat) (y : Sc), (flats [setCnt cc])[j]? = some y → ∃ v : Value, (old.toArray ++ new.toArray ++ Builtin.zeroCells z.cells (nc - (lenG a + lenG b)))[j]? = some v ∧ srel ι y v ∧ (v.oneCell' = true ∧ v.cells = #[v]) := by
            intro j y hy
            rw [hfl] at hy
            obtain ⟨v, v1, v2⟩ := krel_at (krel_append o2 n2) j y hy
            have hlt : j < (old ++ new).length := by
              rcases Nat.lt_or_ge j (old ++ new).length with hh | hh
              · exact hh
              · rw [List.getElem?_eq_none hh] at v1; cases v1
            refine ⟨v, ?_, v2⟩
            rw [Array.getElem?_append_left (by simpa using hlt)]
            simpa using v1
          have hv : ∀ ι' : Map, ι.le ι' → ι' nx = some ⟨some w.heap.size, 0, nc, (flats [setCnt cc]).length, wd⟩ → vrel ι' (.s (.slice nx wd none none)) (.slice (some ⟨w.heap.size, 0, none⟩) (lenG a + lenG b) nc) := by
            intro ι' _ h1
            exact ⟨_, _, _, _, rfl, hmaxl hbd, hw0, e1, by simp, h1, fun _ => rfl, by rw [hfll], .inr ⟨w.heap.size, rfl, rfl, fun _ => rfl⟩⟩
          rcases hef with rfl | ⟨n, hn, rfl⟩
          · refine good_new hs hwfc (C := old.toArray ++ new.toArray ++ Builtin.zeroCells z.cells (nc - (lenG a + lenG b))) (e := e) (fr := (0, 0)) (w' := w.drew.alloc (.cells (old.toArray ++ new.toArray ++ Builtin.zeroCells z.cells (nc - (lenG a + lenG b))) e)) (cap := nc) (wd := wd) (by rw [hC, hfll]; exact Nat.mul_le_mul_right _ e1) (by rw [hC]; exact Nat.le_refl _) (by intro o _; simp) hcells rfl rfl rfl rfl hK hv (hex _ _ ?_)
            rw [a1]; exact e2
          · refine good_new_kill hs hwfc (C := old.toArray ++ new.toArray ++ Builtin.zeroCells z.cells (nc - (lenG a + lenG b))) (e := e) (fr := (0, 0)) (w' := w.drew.alloc (.cells (old.toArray ++ new.toArray ++ Builtin.zeroCells z.cells (nc - (lenG a + lenG b))) e)) (cap := nc) (wd := wd) (by rw [hC, hfll]; exact Nat.mul_le_mul_right _ e1) (by rw [hC]; exact Nat.le_refl _) (by intro o _; simp) hcells rfl rfl rfl rfl hn hK hv (hex _ _ ?_)
            rw [a1]; exact e2
        -- nothing at all
        have empty : ∀ (ef : Eff), (ef = [] ∨ ∃ n, n < nx ∧ ef = [(n, none)]) → (lenG a + lenG b) * i.bytes ≤ 140737488355328 → lenG a + lenG b = 0 → cap = 0 → K (.s (.slice nx wd none none)) ((nx, some ⟨true, [setCnt cc]⟩) :: ef) 1 = some r → Good P o ρ ι I nx hp w K r := by
          intro ef hef hbd h0 hc0 hK
          have hnew0 : new0 = [] := by
            have h2 := krel_len m2
            rw [Seg.flat_len b2, size_cnt b (by omega), b3] at h2
            have : lenG b = 0 := by omega
            rw [this] at h2
            exact List.eq_nil_of_length_eq_zero (by simpa using h2)
          have hrun := (append_run (w := w) (P := P) (t := t) (u := u) (ty := o.type) ht hu hd hi hz (by omega) (X := ρ xo) b4 m1 n1 o1 hbd).1 (by omega) w (by rw [hnew0]; cases oa <;> rfl)
          obtain ⟨p1, p2⟩ := hs.none1 [setCnt cc] hwfc (by rw [hfll, h0]; simp) wd
          have hv : vrel (fun m => if m = nx then some ⟨none, 0, 0, 0, wd⟩ else ι m) (.s (.slice nx wd none none)) (.slice oa (lenG a + lenG b) cap) :=
            ⟨oa, _, cap, ⟨none, 0, 0, 0, wd⟩, rfl, hmaxl hbd, hw0, by omega, by simp, by simp, fun _ => rfl, by rw [h0]; simp, .inl ⟨h0, hc0⟩⟩
          rcases hef with rfl | ⟨n, hn, rfl⟩
          · exact ⟨_, _, 1, _, w, _, I, hK, hv, p1, Map.up_new p2, Fr.refl _ _, .inl (hex _ _ (by rw [a1]; exact hrun))⟩
          · refine ⟨_, _, 1, _, w, _, I, hK, hv, p1.less ?_, Map.up_new p2, Fr.refl _ _, .inl (hex _ _ (by rw [a1]; exact hrun))⟩
            intro q c hq
            simp only [appE, put1] at hq ⊢
            split at hq
            · cases hq
            · exact hq
        split at h
        · -- nil
          obtain ⟨hbd, hK⟩ := hgo [] h
          have h1 : ρ so = .slice none 0 0 := hsr
          rw [a1] at h1
          simp only [Value.slice.injEq] at h1
          by_cases hle : lenG a + lenG b ≤ cap
          · exact empty [] (.inl rfl) hbd (by omega) (by omega) hK
          · exact grow [] (.inl rfl) hbd hle hK
        · -- no room by its own bound
          obtain ⟨hbd, hK⟩ := hgo [] h
          obtain ⟨oa', l', c', lo, f1, f2, f3, f4, f5, f6, f7, f8⟩ := hsr
          rw [a1] at f1
          simp only [Value.slice.injEq] at f1
          have := f5 0 rfl
          by_cases hle : lenG a + lenG b ≤ cap
          · exact empty [] (.inl rfl) hbd (by omega) (by omega) hK
          · exact grow [] (.inl rfl) hbd hle hK
        · rename_i n wd' rr
          split at h
          · rename_i bl hbl
            split at h
            · rename_i hrw
              obtain ⟨hbd, hK⟩ := hgo _ h
              have hn := name_lt hs hbl
              by_cases hle : lenG a + lenG b ≤ cap
              · obtain ⟨q1', q2', q3', q4'⟩ := slice_row (P := P) hs hsr ha
                obtain ⟨oa', l', c', lo, f1, f2, f3, f4, f5, f6, f7, f8⟩ := hsr
                rw [a1] at f1
                simp only [Value.slice.injEq] at f1
                obtain ⟨rfl, rfl, rfl⟩ := f1
                have hwd : wd' = wd := by rw [← q1', haw]
                subst hwd
                have hlw := f7 rfl
                have inplace : ∀ (s : Nat) (k : Nat), lo.blk = some k → oa = some ⟨k, lo.off + s * wd', none⟩ → cap + s = lo.cap → (s + lenG a) * wd' ≤ lo.len → a.flat = ((flats bl.g).drop (s * wd')).take (lenG a * wd') → Good P o ρ ι I nx hp w K r := by
                  intro s k hk hoa hcap hsle hafl
                  obtain ⟨hwfb, hlenb, holdb, hIb, hltb⟩ := blk_at hs hbl f6 hk
                  obtain ⟨C, ee, fr, c1, c2, c3, c4, c5⟩ := holdb.ex
                  have hm2 := krel_len m2
                  rw [Seg.flat_len b2, size_cnt b (by omega), b3, g4, haw] at hm2
                  have hroom : lo.off + (s * wd' + lenG a * wd') + new0.length ≤ C.size := by
                    rw [hm2]
                    have : s * wd' + lenG a * wd' + lenG b * wd' ≤ lo.cap * lo.w := by
                      rw [hlw, ← Nat.add_mul, ← Nat.add_mul]
                      exact Nat.mul_le_mul_right _ (by omega)
                    omega
                  have hst := run_storeCells (P := P) k (lo.off + s * wd' + lenG a * wd') new0 0 w C ee fr (krel_one m2) c1 (by omega) c4
                  have hrun := (append_run (w := w) (P := P) (t := t) (u := u) (ty := o.type) ht hu hd hi hz (by omega) (X := ρ xo) b4 m1 n1 o1 hbd).1 hle _ (by
                    rw [hoa]
                    simp only [Addr.add_plain', hsz]
                    exact hst)
                  simp only [Nat.add_zero] at hrun
                  obtain ⟨C', d1, d2, d3⟩ := putCells_here (b := k) new0 (lo.off + s * wd' + lenG a * wd') w C ee fr c1
                  obtain ⟨r1, r2, r3, r4⟩ := putCells_rest k new0 (lo.off + s * wd' + lenG a * wd') w
                  have hmv := hs.move hbl hrw f6 hk [setCnt cc] hwfc ⟨some k, lo.off + s * wd', cap, (flats [setCnt cc]).length, wd'⟩ rfl rfl (putCells w k (lo.off + s * wd' + lenG a * wd') new0) r1
                    (fun j hj => putCells_other hj new0 _ w) ⟨C', ee, fr, d1, by
                      rw [d2]
                      simp only [hfll, Nat.add_mul]
                      omega, by
                      rw [d2]
                      simp only
                      have : s * wd' + cap * wd' = lo.cap * lo.w := by rw [hlw, ← Nat.add_mul, ← hcap, Nat.add_comm]
                      omega, by rw [d2]; exact c4, by
                      intro j y hy
                      simp only
                      rw [hfl] at hy
                      rw [d3]
                      have hal : a.flat.length = lenG a * wd' := by rw [Seg.flat_len a4, size_cnt a (by omega), a5, haw]
                      by_cases hj : j < lenG a * wd'
                      · rw [if_neg (by omega)]
                        rw [List.getElem?_append_left (by omega), hafl, List.getElem?_take, if_pos hj, List.getElem?_drop] at hy
                        obtain ⟨v, v1, v2, v3⟩ := c5 _ y hy
                        exact ⟨v, by rw [Nat.add_assoc]; exact v1, v2, v3⟩
                      · rw [List.getElem?_append_right (by omega), hal] at hy
                        obtain ⟨v, v1, v2, v3⟩ := krel_at m2 _ y hy
                        have hlt : j - lenG a * wd' < new0.length := by
                          rcases Nat.lt_or_ge (j - lenG a * wd') new0.length with hh | hh
                          · exact hh
                          · rw [List.getElem?_eq_none hh] at v1; cases v1
                        rw [if_pos (by omega)]
                        have : lo.off + s * wd' + j - (lo.off + s * wd' + lenG a * wd') = j - lenG a * wd' := by omega
                        rw [this]
                        exact ⟨v, v1, v2, v3⟩⟩
                  refine ⟨_, _, 1, _, _, _, I, hK, ?_, hmv.1, Map.up_new hmv.2, ⟨fun j _ hj => putCells_other (fun e => hj (by subst e; exact hIb hrw)) new0 _ w, fun _ h => .inl h, by rw [r1]; exact Nat.le_refl _, r2, r3, r4⟩, .inl (hex _ _ (by rw [a1]; exact hrun))⟩
                  exact ⟨oa, _, cap, _, rfl, hmaxl hbd, hw0, hle, by simp, by simp; rfl, fun _ => rfl, by rw [hfll], .inr ⟨k, rfl, hoa, fun _ => rfl⟩⟩
                cases rr with
                | none =>
                  obtain ⟨f8a, f8b⟩ := f8
                  rcases f8b with ⟨h0, h0c⟩ | ⟨k, h9, h10, h11⟩
                  · exact empty _ (.inr ⟨n, hn, rfl⟩) hbd (by omega) h0c hK
                  · have hro : rowOf hp n wd' = some a := ha
                    obtain ⟨b', hb', hg', _⟩ := rowOf_spec hro
                    rw [hbl] at hb'; cases hb'
                    refine inplace 0 k h9 (by rw [h10]; simp) (by have := h11 rfl; omega) (by rw [Nat.zero_add, f8a]; exact Nat.le_refl _) ?_
                    rw [hg', flats_one, Nat.zero_mul, List.drop_zero]
                    rw [← haw] ; exact (row_all a4 a5 (by omega)).symm
                | some p =>
                  obtain ⟨s, l2⟩ := p
                  obtain ⟨rfl, f8a, f8b⟩ := f8
                  rcases f8b with ⟨h0, h0c⟩ | ⟨k, h9, h10, h11⟩
                  · exact empty _ (.inr ⟨n, hn, rfl⟩) hbd (by omega) h0c hK
                  · simp only [sliceRow] at ha
                    cases hro : rowOf hp n wd' with
                    | none => rw [hro] at ha; cases ha
                    | some base =>
                      rw [hro] at ha
                      obtain ⟨b', hb', hg', hbw⟩ := rowOf_spec hro
                      rw [hbl] at hb'; cases hb'
                      obtain ⟨hwfb, hlenb⟩ := blk_len hs hbl f6
                      rw [hg'] at hwfb hlenb
                      have hrwb := (wfs_cons.1 hwfb).1
                      rw [flats_one, Seg.flat_len hrwb, size_cnt base (by omega), hbw] at hlenb
                      have hle2 : s + lenG a ≤ base.cnt := Nat.le_of_mul_le_mul_right (by rw [← hlenb]; exact f8a) f3
                      obtain ⟨_, _, _, _, s5, _⟩ := subG_spec hrwb hle2 ha
                      refine inplace s k h9 h10 (h11 rfl) f8a ?_
                      rw [s5, hg', flats_one, hbw]
              · exact grow _ (.inr ⟨n, hn, rfl⟩) hbd hle hK
            · cases h
          · cases h
        · cases h
      · cases h
    · cases h
end
end Go.Ev

namespace Go.Ev
section
variable {R : Type} {P : Program} {o : Oper} {ρ : Operand → Value} {ι : Map} {I : Nat → Prop} {nx : Nat} {hp : Nat → Option Blk} {w : World} {K : AVal → Eff → Nat → Option R} {r : R}

theorem spliceG_spec {g y g' : Seg} (hg : g.wf) (hy : y.wf) {s : Nat} (hle : s + lenG y ≤ g.cnt) (h : spliceG g s y = some g') :
    g'.wf ∧ y.width = g.width ∧ g'.width = g.width ∧ g'.flat = g.flat.take (s * g.width) ++ y.flat ++ g.flat.drop (s * g.width + y.flat.length) := by
  cases g <;> cases y <;> simp only [spliceG] at h <;> try (cases h; done)
  case ints.ints k xs n k' ys m =>
    split at h
    · rename_i hk
      have := beqK_eq hk; subst this
      cases h
      simp only [Seg.wf, lenG, Seg.cnt] at *
      refine ⟨by simp; omega, rfl, rfl, ?_⟩
      simp [Seg.flat, Seg.width, List.map_take, List.map_drop]
    · cases h
  case bytes.bytes xs n ys m =>
    cases h
    simp only [Seg.wf, lenG, Seg.cnt] at *
    refine ⟨by simp; omega, rfl, rfl, ?_⟩
    simp [Seg.flat, Seg.width, List.map_take, List.map_drop]
  case strs.strs xs n ys m =>
    cases h
    simp only [Seg.wf, lenG, Seg.cnt] at *
    refine ⟨by simp; omega, rfl, rfl, ?_⟩
    simp [Seg.flat, Seg.width, List.map_take, List.map_drop]

theorem fits_nat {n : Nat} (h : n ≤ maxL) : fits .i64 (n : Int) := by
  simp [fits, IntKind.min, IntKind.max, IntKind.signed, IntKind.bits]
  simp only [maxL] at h
  omega

theorem good_copy (hs : HSim ι I nx hp w) {c : Call} (ho : o.op = .call c) (hcb : c.callee = .builtin .copy) {t u : TypeId} (hat : c.argTypes = #[t, u]) {so xo : Operand} (hargs : c.args = #[so, xo])
    {s x : Sc} (hsr : srel ι s (ρ so)) (hxr : srel ι x (ρ xo)) (h : evCopy P hp t s x K = some r) : Good P o ρ ι I nx hp w K r := by
  have hex : ∀ X w', (Builtin.copy_ #[t, u] o.type #[ρ so, ρ xo]).run P w = .ok X w' → (execOp ρ o).run P w = .ok (.value X) w' := by
    intro X w' hX
    obtain ⟨cs, he⟩ := exec_builtin (P := P) (ρ := ρ) (w := w) ho hcb
    rw [he, hat, hargs]
    simp [builtin, hX]
  unfold evCopy at h
  split at h
  · cases h
  · rename_i e he
    have ht : P.underlying t = some (.slice e) := by
      unfold elemOf' at he
      split at he
      · rename_i hu; cases he; exact hu
      · cases he
    cases s with
    | slice n wd rr cap =>
      cases hdl : lenSl hp (.slice n wd rr cap) with
      | none => rw [hdl] at h; cases h
      | some dl =>
      cases hb : srcRow P hp e x with
      | none => rw [hdl, hb] at h; cases h
      | some b =>
      rw [hdl, hb] at h
      dsimp only at h
      obtain ⟨b1, b2, b3, b4, b5⟩ := src_spec (P := P) hs hxr hb
      split at h
      · rename_i bl hbl
        split at h
        · rename_i row y hrw0 hrow hy
          rw [Bool.and_eq_true] at hrw0
          obtain ⟨hrw, heq⟩ := hrw0
          split at h
          · rename_i row' hspl
            obtain ⟨b', hb', hg', hwid⟩ := rowOf_spec hrow
            rw [hbl] at hb'; cases hb'
            obtain ⟨oa, l, c', lo, f1, f2, f3, f4, f5, f6, f7, f8⟩ := hsr
            obtain ⟨hwfb, hlenb⟩ := blk_len hs hbl f6
            rw [hg'] at hwfb hlenb
            have hrwb := (wfs_cons.1 hwfb).1
            rw [flats_one, Seg.flat_len hrwb, size_cnt row (by omega), hwid] at hlenb
            obtain ⟨s1, s2, s3, s4, s5, s6⟩ := subG_spec b2 (s := 0) (l := min (lenG b) dl) (by rw [b3]; simp; omega) hy
            rw [Nat.zero_mul, List.drop_zero] at s5
            obtain ⟨cs, e1, e2⟩ := b5 (min (lenG b) dl) (Nat.min_le_left _ _)
            rw [← s5] at e2
            -- where, and how many
            have key : ∀ (sb : Nat), begOf rr = sb → dl = l → sb + l ≤ row.cnt → ((l = 0 ∧ c' = 0) ∨ ∃ k, lo.blk = some k ∧ oa = some ⟨k, lo.off + sb * wd, none⟩) → Good P o ρ ι I nx hp w K r := by
              intro sb hsb hdll hcnt hplace
              subst hdll
              rw [hsb] at hspl
              obtain ⟨t1, t2, t3, t4⟩ := spliceG_spec hrwb s1 (by rw [s3]; omega) hspl
              have hbw : b.width = wd := by rw [← s4, t2, hwid]
              have hel : (sizeOf e).run P w = .ok wd w := by
                cases hce : cells P e with
                | none => rw [hce] at heq; cases heq
                | some q => rw [hce] at heq; have := beq_of heq; subst this; exact cells_run hce
              have hylen : y.flat.length = min (lenG b) dl * wd := by rw [Seg.flat_len s1, size_cnt y (by omega), s2, s4, hbw]
              rw [hbw] at e1
              have hrun : ∀ w', (match oa with
                  | some a => (storeCells a cs : Sem Unit)
                  | none => pure ()).run P w = .ok () w' → (Builtin.copy_ #[t, u] o.type #[ρ so, ρ xo]).run P w = .ok (.int .i64 ((min (lenG b) dl : Nat) : Int)) w' := by
                intro w' hst
                unfold Builtin.copy_
                cases oa with
                | none =>
                  simp only [Sem.run_pure, Result.ok.injEq, true_and] at hst
                  subst hst
                  simp [run_und ht, f1, b4, hel, e1, goInt]
                | some a =>
                  simp at hst
                  simp [run_und ht, f1, b4, hel, e1, hst, goInt]
              have hwf' : wfs [row'] := wfs_cons.2 ⟨t1, fun _ h => by cases h⟩
              have hfits : fits .i64 ((min (lenG b) dl : Nat) : Int) := fits_nat (Nat.le_trans (Nat.min_le_left _ _) b1)
              rcases hplace with ⟨h0, h0c⟩ | ⟨k, hk, hoa⟩
              · have hcs : cs = [] := by
                  have := krel_len e2
                  rw [hylen, h0] at this
                  exact List.eq_nil_of_length_eq_zero (by simpa using this)
                have hyf : y.flat = [] := List.eq_nil_of_length_eq_zero (by rw [hylen, h0]; simp)
                have hsame : flats [row'] = flats bl.g := by
                  rw [hg', flats_one, flats_one, t4, hyf]; simp
                have hput : HSim ι I nx (put1 hp n (some ⟨true, [row']⟩)) w := by
                  refine hs.write hbl hrw f6 [row'] hwf' ?_ w rfl (fun _ _ => rfl) ?_
                  · rw [hsame, hg', flats_one, Seg.flat_len hrwb, size_cnt row (by omega), hwid, hlenb]
                  · intro k hk
                    rw [hsame]
                    exact (blk_at hs hbl f6 hk).2.2.1
                exact ⟨_, _, 0, _, w, ι, I, h, ⟨rfl, hfits⟩, hput, Map.up_refl _ _, Fr.refl _ _, .inl (hex _ _ (hrun w (by rw [hcs]; cases oa <;> rfl)))⟩
              · obtain ⟨hwfb2, hlenb2, holdb, hIb, hltb⟩ := blk_at hs hbl f6 hk
                obtain ⟨C, ee, fr, c1, c2, c3, c4, c5⟩ := holdb.ex
                have hcl := krel_len e2
                have hle1 : sb * wd + y.flat.length ≤ (flats bl.g).length := by
                  rw [hylen, ← hlenb2, hlenb, ← Nat.add_mul]
                  exact Nat.mul_le_mul_right _ (by omega)
                obtain ⟨p1, p2⟩ := good_write hs hbl hrw f6 hk e2 hle1 hwf' (by rw [flats_one, t4, hwid, hg', flats_one])
                refine ⟨_, _, 0, _, _, ι, I, h, ⟨rfl, hfits⟩, p1, Map.up_refl _ _, p2, .inl (hex _ _ (hrun _ ?_))⟩
                rw [hoa]
                have := run_storeCells (P := P) k (lo.off + sb * wd) cs 0 w C ee fr (krel_one e2) c1 (by omega) c4
                simpa using this
            cases rr with
            | none =>
              obtain ⟨f8a, f8b⟩ := f8
              have hlc : l = row.cnt := Nat.eq_of_mul_eq_mul_right f3 (by rw [f8a, hlenb])
              have hdl2 : dl = l := by
                simp only [lenSl, hrow] at hdl
                cases hdl
                rw [lenG_cnt hrwb (by omega), hlc]
              refine key 0 rfl hdl2 (by omega) ?_
              rcases f8b with hz | ⟨k, h9, h10, _⟩
              · exact .inl hz
              · exact .inr ⟨k, h9, by rw [h10]; simp⟩
            | some p =>
              obtain ⟨s, l2⟩ := p
              obtain ⟨rfl, f8a, f8b⟩ := f8
              simp only [lenSl, Option.some.injEq] at hdl
              refine key s rfl hdl.symm (Nat.le_of_mul_le_mul_right (by rw [← hlenb]; exact f8a) f3) ?_
              rcases f8b with hz | ⟨k, h9, h10, _⟩
              · exact .inl hz
              · exact .inr ⟨k, h9, h10⟩
          · cases h
        · cases h
      · cases h
    | _ => cases h

theorem good_len (hs : HSim ι I nx hp w) {c : Call} (ho : o.op = .call c) (hcb : c.callee = .builtin .len) {t : TypeId} (hat : c.argTypes = #[t]) {so : Operand} (hargs : c.args = #[so])
    {X : Value} {n : Nat} (hX : ρ so = X) (hn : n ≤ maxL) {d : TypeDesc} (hu : P.underlying t = some d)
    (hd : (d = .string ∧ ∃ s, X = .string s ∧ s.size = n) ∨ (∃ e, d = .array n e) ∨ (∃ e oa c, d = .slice e ∧ X = .slice oa n c))
    (h : K (.s (.int .i64 (n : Int))) [] 0 = some r) : Good P o ρ ι I nx hp w K r := by
  refine good_pure hs h (x := .int .i64 (n : Int)) ⟨rfl, fits_nat hn⟩ ?_
  obtain ⟨cs, he⟩ := exec_builtin (P := P) (ρ := ρ) (w := w) ho hcb
  rw [he, hat, hargs]
  have : (Builtin.len_ #[t] o.type #[ρ so]).run P w = .ok (.int .i64 (n : Int)) w := by
    rw [hX]
    rcases hd with ⟨rfl, s, rfl, rfl⟩ | ⟨e, rfl⟩ | ⟨e, oa, c, rfl, rfl⟩
    · simp [Builtin.len_, run_und hu, goInt]
    · cases X <;> simp [Builtin.len_, run_und hu, goInt]
    · simp [Builtin.len_, run_und hu, goInt]
  simp [builtin, this]

theorem foldMn_run {k : IntKind} : ∀ (vs : List AVal) (xs : List Value) (a m : Int), fits k a → All2 (vrel ι) vs xs → foldMn k a vs = some m →
    fits k m ∧ (xs.foldlM Builtin.min2 (.int k a)).run P w = .ok (.int k m) w
  | [], [], a, m, hf, _, h => by cases h; exact ⟨hf, rfl⟩
  | [], _ :: _, a, m, hf, hh, h => by cases hh
  | v :: vs, xs, a, m, hf, hh, h => by
    cases hh with
    | cons h1 h2 =>
      rename_i x xs
      cases v with
      | tup _ => cases h
      | c v =>
        cases v with
        | agg _ => cases h
        | sc v =>
          cases v <;> try (cases h; done)
          rename_i k' b
          simp only [foldMn] at h
          split at h
          · rename_i hk
            have := beqK_eq hk; subst this
            obtain ⟨rfl, hb⟩ := h1
            have hf' : fits k (mnI a b) := by unfold mnI; split <;> assumption
            obtain ⟨q1, q2⟩ := foldMn_run vs xs _ m hf' h2 h
            refine ⟨q1, ?_⟩
            rw [List.foldlM_cons, Sem.run_bind]
            have : (Builtin.min2 (.int k a) (.int k b)).run P w = .ok (.int k (mnI a b)) w := rfl
            rw [this]
            exact q2
          · cases h
theorem foldMx_run {k : IntKind} : ∀ (vs : List AVal) (xs : List Value) (a m : Int), fits k a → All2 (vrel ι) vs xs → foldMx k a vs = some m →
    fits k m ∧ (xs.foldlM Builtin.max2 (.int k a)).run P w = .ok (.int k m) w
  | [], [], a, m, hf, _, h => by cases h; exact ⟨hf, rfl⟩
  | [], _ :: _, a, m, hf, hh, h => by cases hh
  | v :: vs, xs, a, m, hf, hh, h => by
    cases hh with
    | cons h1 h2 =>
      rename_i x xs
      cases v with
      | tup _ => cases h
      | c v =>
        cases v with
        | agg _ => cases h
        | sc v =>
          cases v <;> try (cases h; done)
          rename_i k' b
          simp only [foldMx] at h
          split at h
          · rename_i hk
            have := beqK_eq hk; subst this
            obtain ⟨rfl, hb⟩ := h1
            have hf' : fits k (mxI a b) := by unfold mxI; split <;> assumption
            obtain ⟨q1, q2⟩ := foldMx_run vs xs _ m hf' h2 h
            refine ⟨q1, ?_⟩
            rw [List.foldlM_cons, Sem.run_bind]
            have : (Builtin.max2 (.int k a) (.int k b)).run P w = .ok (.int k (mxI a b)) w := rfl
            rw [this]
            exact q2
          · cases h
end
end Go.Ev

namespace Go.Ev
section
variable {R : Type} {P : Program} {o : Oper} {ρ : Operand → Value} {ι : Map} {I : Nat → Prop} {nx : Nat} {hp : Nat → Option Blk} {w : World} {K : AVal → Eff → Nat → Option R} {r : R}

theorem sameSc_spec {s : Sc} {v : Value} (h : sameSc s v = true) : srel ι s v ∧ (v.oneCell' = true ∧ v.cells = #[v]) := by
  cases s <;> cases v <;> simp only [sameSc] at h <;> try (cases h; done)
  case bool.bool a b => simp at h; subst h; exact ⟨rfl, rfl, rfl⟩
  case int.int j a k b =>
    simp at h
    obtain ⟨⟨h1, h2⟩, h3⟩ := h
    have := beqK_eq h1
    subst this; subst h2; subst h3
    have := fits_zero_max j
    exact ⟨⟨rfl, this⟩, rfl, rfl⟩
  case str.string a b =>
    simp at h
    obtain ⟨h1, h2⟩ := h
    subst h1
    refine ⟨⟨?_, by simp [maxL]⟩, rfl, rfl⟩
    congr 1
    apply ByteArray.ext
    simp [h2]
  case nilp.pointer a =>
    cases a with
    | none => exact ⟨rfl, rfl, rfl⟩
    | some a => cases h
  case nilsl.slice a l c =>
    cases a with
    | some a => cases h
    | none =>
      cases l with
      | succ l => cases h
      | zero =>
        cases c with
        | succ c => cases h
        | zero => exact ⟨rfl, rfl, rfl⟩
  case nilfn.nilFunc => exact ⟨rfl, rfl, rfl⟩
  case nilmap.map a =>
    cases a with
    | none => exact ⟨rfl, rfl, rfl⟩
    | some a => cases h
  case err.nilIface b =>
    cases b with
    | true => exact ⟨.inl ⟨rfl, rfl⟩, rfl, rfl⟩
    | false => cases h
  all_goals (first | cases h | (rename_i b; cases b <;> cases h))
theorem sameScs_spec : ∀ {l : List Sc} {vs : List Value}, sameScs l vs = true → krel ι l vs
  | [], [], _ => .nil
  | [], _ :: _, h => by cases h
  | _ :: _, [], h => by cases h
  | a :: l, b :: vs, h => by
    simp only [sameScs, Bool.and_eq_true] at h
    exact .cons (sameSc_spec h.1) (sameScs_spec h.2)
theorem wfB_spec : ∀ {g : Segs}, wfB g = true → wfs g
  | [], _ => fun _ h => by cases h
  | a :: g, h => by
    cases a <;> simp only [wfB, Bool.and_eq_true] at h
    case one => exact wfs_cons.2 ⟨trivial, wfB_spec h⟩
    all_goals exact wfs_cons.2 ⟨beq_of h.1, wfB_spec h.2⟩

theorem zeroS_spec {t : TypeId} {g : Segs} (h : zeroS P t = some g) : wfs g ∧ ∃ i z, P.info? t = some i ∧ i.zero = some z ∧ krel ι (flats g) z.cells.toList := by
  unfold zeroS at h
  split at h
  · rename_i g' z hg hz
    split at h
    · rename_i h1 h2
      cases h
      cases hi : P.info? t with
      | none => rw [hi] at hz; cases hz
      | some i =>
        rw [hi] at hz
        simp only [Option.map_some, Option.some.injEq] at hz
        exact ⟨wfB_spec h1, i, z, rfl, hz, sameScs_spec h2⟩
    · cases h
  · cases h

theorem good_var (hs : HSim ι I nx hp w) {g : Segs} (hg : wfs g) {x : Value} {cs : List Value} (hx : x.cells = cs.toArray) (hk : krel ι (flats g) cs) {t : TypeId}
    (h : K (.s (.ptr nx 0 0 0 0)) [(nx, some ⟨true, g⟩)] 1 = some r) (hpos : 0 < (flats g).length)
    (hr : ∀ x', (newVar t x).run P w = .ok x' (w.alloc (.cells x.cells t)) → x' = ⟨w.heap.size, 0, none⟩ → (execOp ρ o).run P w = .ok (.value (.pointer (some x'))) (w.alloc (.cells x.cells t))) : Good P o ρ ι I nx hp w K r := by
  have hlen := krel_len hk
  refine good_new hs hg (C := cs.toArray) (e := t) (fr := (0, 0)) (cap := 0) (wd := 0) (x := .pointer (some ⟨w.heap.size, 0, none⟩)) (w' := w.alloc (.cells x.cells t)) ?_ (by simp) (by intro o _; simp) ?_ ?_ rfl rfl rfl h ?_ ?_
  · simp [hlen]
  · intro i y hy
    obtain ⟨v, a, b⟩ := krel_at hk i y hy
    exact ⟨v, by simpa using a, b⟩
  · rw [hx]; rfl
  · intro ι' _ h1
    exact ⟨_, _, h1, rfl, by simp, by simpa using hpos⟩
  · exact hr _ (by simp [newVar, newRow]) rfl

theorem foldl_splice (off : Nat) : ∀ (vs : List Value) (k : Nat) (cs : Array Value), off + k + vs.length ≤ cs.size →
    (((vs.zipIdx k).foldl (fun (cs : Array Value) (p : Value × Nat) => cs.setIfInBounds (off + p.2) p.1) cs)).toList = cs.toList.take (off + k) ++ vs ++ cs.toList.drop (off + k + vs.length) := by
  intro vs
  induction vs with
  | nil => intro k cs h; simp
  | cons v vs ih =>
    intro k cs h
    simp only [List.length_cons] at h
    rw [List.zipIdx_cons, List.foldl_cons, ih (k + 1) _ (by simp; omega)]
    simp only [Array.toList_setIfInBounds, List.length_cons]
    have hlt : off + k < cs.toList.length := by simpa using (by omega : off + k < cs.size)
    have e1 : off + (k + 1) = off + k + 1 := by omega
    have hA : (cs.toList.take (off + k)).length = off + k := by rw [List.length_take]; omega
    rw [e1, set_eq_splice _ _ _ hlt]
    generalize hAe : cs.toList.take (off + k) = A at *
    have h1 : (A ++ [v]).length = off + k + 1 := by simp [hA]
    rw [List.take_append_of_le_length (by omega), List.take_of_length_le (by omega), List.drop_append, List.drop_of_length_le (by omega), h1, List.nil_append, List.drop_drop]
    simp only [List.append_assoc, List.cons_append, List.nil_append]
    congr 4
    omega
/-- One part laid into a value's cells. -/
theorem fill_one {place : Nat → Option (Nat × Nat)} {cells : Array Value} {i off size : Nat} {x : Value} {cs : List Value} (hp : place i = some (off, size)) (hx : x.cells = cs.toArray) (hc : cs.length = size)
    (hle : off + size ≤ cells.size) (rest : List (Nat × Value)) :
    Instr.fill place cells ((i, x) :: rest) = Instr.fill place (cells.toList.take off ++ cs ++ cells.toList.drop (off + size)).toArray rest := by
  rw [Instr.fill, hp]
  simp only [hx, List.size_toArray, hc]
  rw [if_neg (by simp; omega)]
  congr 1
  apply Array.ext'
  have := foldl_splice off cs 0 cells (by omega)
  simp only [Nat.add_zero, hc] at this
  rw [← this, ← Array.foldl_toList, Array.toList_zipIdx]
end
end Go.Ev

namespace Go.Ev
section
variable {R : Type} {P : Program} {o : Oper} {ρ : Operand → Value} {ι : Map} {I : Nat → Prop} {nx : Nat} {hp : Nat → Option Blk} {w : World} {K : AVal → Eff → Nat → Option R} {r : R}

/-- The parts of a literal, as the evaluator and the machine have them. -/
def parts (ι : Map) (ps : List (Nat × Option AVal)) (xs : List (Nat × Value)) : Prop := All2 (fun p x => p.1 = x.1 ∧ ∀ v, p.2 = some v → vrel ι v x.2) ps xs

theorem krel_splice {l l' : List Sc} {cs cs' : List Value} (h : krel ι l cs) (h' : krel ι l' cs') {off : Nat} (hle : off + l'.length ≤ l.length) :
    krel ι (l.take off ++ l' ++ l.drop (off + l'.length)) (cs.take off ++ cs' ++ cs.drop (off + l'.length)) := by
  have hl := krel_len h
  have hl' := krel_len h'
  have ht : ∀ n, krel ι (l.take n) (cs.take n) := by
    intro n
    refine krel_of_at _ _ (by simp [hl]) fun i x hx => ?_
    rw [List.getElem?_take] at hx ⊢
    split at hx
    · rename_i hi; rw [if_pos hi]; exact krel_at h i x hx
    · cases hx
  have hd : ∀ n, krel ι (l.drop n) (cs.drop n) := by
    intro n
    refine krel_of_at _ _ (by simp [hl]) fun i x hx => ?_
    rw [List.getElem?_drop] at hx ⊢
    exact krel_at h _ x hx
  exact krel_append (krel_append (ht _) h') (hd _)

theorem fillS_spec {place : Nat → Option (Nat × Nat)} : ∀ (ps : List (Nat × Option AVal)) (xs : List (Nat × Value)) (g g' : Segs) (cs : List Value), parts ι ps xs → wfs g → krel ι (flats g) cs → fillS place ps g = some g' →
    wfs g' ∧ ∃ cs', Instr.fill place cs.toArray xs = some cs' ∧ krel ι (flats g') cs'.toList
  | [], [], g, g', cs, _, hw, hk, h => by cases h; exact ⟨hw, cs.toArray, rfl, hk⟩
  | [], _ :: _, _, _, _, h, _, _, _ => by cases h
  | p :: ps, xs, g, g', cs, hp, hw, hk, h => by
    cases hp with
    | cons h1 h2 =>
      rename_i x xs
      obtain ⟨i, ov⟩ := p
      obtain ⟨j, X⟩ := x
      obtain ⟨rfl, h1⟩ := h1
      simp only [fillS] at h
      split at h
      · rename_i off size v hpl
        split at h
        · rename_i y hy
          split at h
          · rename_i a b hs hsp
            have hsz := beq_of hs
            split at h
            · rename_i z c htk
              obtain ⟨hwy, ys, hX, hky⟩ := segsOf_spec (h1 v rfl) hy
              obtain ⟨e1, s1⟩ := splitS_spec _ _ _ _ hsp
              obtain ⟨e2, s2⟩ := takeS_spec _ _ _ _ htk
              subst e2
              have hw0 := hw
              rw [e1] at hw0
              obtain ⟨wa, wb⟩ := wfs_append.1 hw0
              obtain ⟨wz, wc⟩ := wfs_append.1 wb
              have la := flats_len wa
              have lz := flats_len wz
              have ly := flats_len hwy
              have lcs := krel_len hk
              have lys := krel_len hky
              have e3 : flats g = flats a ++ (flats z ++ flats c) := by rw [e1, flats_append, flats_append]
              have hlen : (flats g).length = (flats a).length + ((flats z).length + (flats c).length) := by rw [e3]; simp
              have hle : off + (flats y).length ≤ (flats g).length := by omega
              have e4 : flats (a ++ y ++ c) = (flats g).take off ++ flats y ++ (flats g).drop (off + (flats y).length) := by
                have h5 : off = (flats a).length := by omega
                have h6 : off + (flats y).length = (flats a).length + (flats z).length := by omega
                rw [h6, h5, e3, List.take_left, ← List.append_assoc (flats a), List.drop_append_of_le_length (by simp), List.drop_of_length_le (by simp), flats_append, flats_append]
                rfl
              have hks := krel_splice hk hky hle
              rw [← e4] at hks
              obtain ⟨q1, cs', q2, q3⟩ := fillS_spec ps xs _ g' _ h2 (wfs_append.2 ⟨wfs_append.2 ⟨wa, hwy⟩, wc⟩) hks h
              refine ⟨q1, cs', ?_, q3⟩
              rw [fill_one hpl hX (by omega) (by simp; omega)]
              rw [← q2]
              congr 3
              have : off + size = off + (flats y).length := by omega
              rw [this]
            · cases h
          · cases h
        · cases h
      · cases h

theorem tupSet_known : ∀ {fs : List Fk} {t u : Tup fs} {f : Nat} {v : Sc}, tupSet fs t f v = some u → v.known
  | [], _, _, _, _, h => by simp [tupSet] at h
  | .int k :: fs, t, u, 0, v, h => by cases v <;> simp [tupSet] at h <;> trivial
  | .str :: fs, t, u, 0, v, h => by cases v <;> simp [tupSet] at h <;> trivial
  | .bool :: fs, t, u, 0, v, h => by cases v <;> simp [tupSet] at h <;> trivial
  | g :: fs, t, u, f + 1, v, h => by
    have h' : (match tupSet fs t.2 f v with
      | some u => some ((t.1, u) : Tup (g :: fs))
      | none => none) = some u := by cases g <;> exact h
    cases hs : tupSet fs t.2 f v with
    | none => rw [hs] at h'; cases h'
    | some z => exact tupSet_known hs
theorem setElem_known {g g' : Seg} (h1 : g.isOne = false) {ix w f : Nat} {v : Sc} (h : g.setElem ix w f v = some g') : v.known := by
  cases g <;> simp only [Seg.setElem] at h
  case one => cases h1
  case ints => split at h <;> first | trivial | cases h
  case bytes => split at h <;> first | trivial | cases h
  case strs => split at h <;> first | trivial | cases h
  case recs =>
    split at h
    · split at h
      · rename_i hu; exact tupSet_known hu
      · cases h
    · cases h
theorem placesL_run : ∀ (fs : List Field) (l : List (Nat × Nat)), placesL P fs = some l → (fs.mapM fun f => Prod.mk f.offset <$> sizeOf f.type).run P w = .ok l w
  | [], l, h => by cases h; rfl
  | f :: fs, l, h => by
    simp only [placesL] at h
    split at h
    · rename_i n l' h1 h2
      cases h
      simp [List.mapM_cons, cells_run h1, placesL_run fs l' h2]
    · cases h
theorem fillRow_spec : ∀ (ps : List (Nat × Option AVal)) (xs : List (Nat × Value)) (g g' : Seg) (cs : List Value), parts ι ps xs → g.wf → g.width = 1 → krel ι g.flat cs → fillRow ps g = some g' →
    g'.wf ∧ ∃ cs', Instr.fill (fun i => some (i * 1, 1)) cs.toArray xs = some cs' ∧ krel ι g'.flat cs'.toList
  | [], [], g, g', cs, _, hw, _, hk, h => by cases h; exact ⟨hw, cs.toArray, rfl, hk⟩
  | [], _ :: _, _, _, _, h, _, _, _, _ => by cases h
  | p :: ps, xs, g, g', cs, hp, hw, hw1, hk, h => by
    cases hp with
    | cons h1 h2 =>
      rename_i x xs
      obtain ⟨i, ov⟩ := p
      obtain ⟨j, X⟩ := x
      obtain ⟨rfl, h1⟩ := h1
      simp only [fillRow] at h
      cases hsc : scOf ov with
      | none => rw [hsc] at h; cases h
      | some s =>
        rw [hsc] at h
        dsimp only at h
        have hov : ov = some (.c (.sc s)) := by
          unfold scOf at hsc
          split at hsc
          · cases hsc; rfl
          · cases hsc
        have hX := h1 _ hov
        split at h
        · rename_i gg hlt hset
          have hlt' : i < g.cnt := by simpa [Nat.blt_eq] using hlt
          have hfl := Seg.flat_len hw
          rw [size_cnt g (by omega), hw1, Nat.mul_one] at hfl
          obtain ⟨q0, q1, q2, q3, q4, q5⟩ := setElem_spec hw (srel_fine hX) hset
          have hkn : s.known := setElem_known (by cases g <;> first | rfl | simp [Seg.width] at hw1) hset
          have hone := srel_one hX hkn
          rcases q5 with ⟨a1, _⟩ | ⟨a1, a2, a3, a4⟩
          · exfalso; cases g <;> simp [Seg.isOne, Seg.width] at a1 hw1
          · have e1 := a4 hlt'
            rw [hw1, Nat.mul_one, Nat.add_zero] at e1
            have e2 : gg.flat = g.flat.take i ++ [s] ++ g.flat.drop (i + 1) := by rw [e1, set_eq_splice _ _ _ (by omega)]
            have lcs := krel_len hk
            have hks : krel ι gg.flat (cs.take i ++ [X] ++ cs.drop (i + 1)) := by
              rw [e2]
              exact krel_splice hk (.cons ⟨hX, hone⟩ .nil) (by simp; omega)
            obtain ⟨p1, cs', p2, p3⟩ := fillRow_spec ps xs gg g' _ h2 q0 (by rw [q4, hw1]) hks h
            refine ⟨p1, cs', ?_, p3⟩
            rw [fill_one (i := i) (off := i) (size := 1) (by simp) hone.2 rfl (by simp; omega)]
            exact p2
        · cases h

theorem good_build (hs : HSim ι I nx hp w) {t : TypeId} {ps : Array (Nat × Operand)} (hop : o.op = .build t ps) {qs : List (Nat × Option AVal)} (hq : parts ι qs (ps.toList.map fun p => (p.1, ρ p.2))) {g : Segs} (hg : evBuild P t qs = some g)
    (h : K (.g g) [] 0 = some r) : Good P o ρ ι I nx hp w K r := by
  have hex : ∀ X, (Instr.build t (ps.map fun p => (p.1, ρ p.2))).run P w = .ok X w → (execOp ρ o).run P w = .ok (.value X) w := by
    intro X hX
    unfold execOp
    rw [hop]
    simp only [Sem.run_bind, hX, Result.andThen_ok, Sem.run_pure]
  have hpl : (ps.map fun p => (p.1, ρ p.2)).toList = ps.toList.map fun p => (p.1, ρ p.2) := by simp
  unfold evBuild at hg
  split at hg
  · rename_i z hz
    obtain ⟨hwz, i, zv, hi, hzv, hkz⟩ := zeroS_spec (ι := ι) hz
    have hzr : (zeroValue t).run P w = .ok zv w := run_zero hi hzv
    split at hg
    · rename_i fs hu
      split at hg
      · rename_i l hpl2
        obtain ⟨q1, cs', q2, q3⟩ := fillS_spec qs _ z g zv.cells.toList hq hwz hkz hg
        refine good_pure hs h (x := .agg cs') ⟨q1, cs'.toList, by simp, q3⟩ (hex _ ?_)
        unfold Instr.build
        have hpr := placesL_run (P := P) (w := w) fs.toList l hpl2
        simp only [Sem.run_bind, hzr, Result.andThen_ok, run_und hu, hpl]
        simp [Array.mapM_eq_mapM_toList, hpr]
        simp only [Array.toArray_toList] at q2
        rw [q2]
        rfl
      · cases hg
    · rename_i n e hu
      split at hg
      · rename_i row hce hrow
        split at hg
        · rename_i row' hfill
          cases hg
          have hz1 : z = [row] ∧ row.width = 1 := by
            unfold isRow1 at hrow
            split at hrow <;> first | (cases hrow; exact ⟨rfl, rfl⟩) | cases hrow
          obtain ⟨rfl, hw1⟩ := hz1
          rw [flats_one] at hkz
          obtain ⟨q1, cs', q2, q3⟩ := fillRow_spec qs _ row row' zv.cells.toList hq (wfs_cons.1 hwz).1 hw1 hkz hfill
          refine good_pure hs h (x := .agg cs') ⟨wfs_cons.2 ⟨q1, fun _ h => by cases h⟩, cs'.toList, by simp, by rw [flats_one]; exact q3⟩ (hex _ ?_)
          unfold Instr.build
          simp only [Sem.run_bind, hzr, Result.andThen_ok, run_und hu, cells_run hce, hpl]
          simp only [Array.toArray_toList] at q2
          rw [q2]
          rfl
        · cases hg
      · rename_i wd _ hce _
        obtain ⟨q1, cs', q2, q3⟩ := fillS_spec qs _ z g zv.cells.toList hq hwz hkz hg
        refine good_pure hs h (x := .agg cs') ⟨q1, cs'.toList, by simp, q3⟩ (hex _ ?_)
        unfold Instr.build
        simp only [Sem.run_bind, hzr, Result.andThen_ok, run_und hu, cells_run hce, hpl]
        simp only [Array.toArray_toList] at q2
        rw [q2]
        rfl
      · cases hg
    · cases hg
  · cases hg
end
end Go.Ev

namespace Go.Ev
section
variable {R : Type} {P : Program} {o : Oper} {ρ : Operand → Value} {ι : Map} {I : Nat → Prop} {nx : Nat} {hp : Nat → Option Blk} {w : World} {K : AVal → Eff → Nat → Option R} {r : R}

/-- Parts one behind the other: their cells. -/
inductive Seq (wd : Nat) : Nat → List (Nat × Value) → List Value → Prop where
  | nil {j : Nat} : Seq wd j [] []
  | cons {j : Nat} {x : Value} {cs : List Value} {xs : List (Nat × Value)} {l : List Value} : x.cells = cs.toArray → cs.length = wd → Seq wd (j + 1) xs l → Seq wd j ((j, x) :: xs) (cs ++ l)
theorem Seq.len {wd j : Nat} {xs : List (Nat × Value)} {l : List Value} (h : Seq wd j xs l) : l.length = xs.length * wd := by
  induction h with
  | nil => simp
  | cons h1 h2 _ ih => rw [List.length_append, h2, ih, List.length_cons, Nat.succ_mul]; omega
theorem fill_seq {wd : Nat} : ∀ {j : Nat} {xs : List (Nat × Value)} {l : List Value} (cells : Array Value), Seq wd j xs l → (j + xs.length) * wd ≤ cells.size →
    Instr.fill (fun i => some (i * wd, wd)) cells xs = some (cells.toList.take (j * wd) ++ l ++ cells.toList.drop ((j + xs.length) * wd)).toArray
  | j, [], l, cells, h, hle => by
    cases h
    simp [Instr.fill]
  | j, (i, x) :: xs, l, cells, h, hle => by
    cases h with
    | cons h1 h2 h3 =>
      rename_i cs l'
      simp only [List.length_cons] at hle ⊢
      have e1 : j + (xs.length + 1) = j + 1 + xs.length := by omega
      have e2 : (j + 1 + xs.length) * wd = j * wd + wd + xs.length * wd := by rw [Nat.add_mul, Nat.add_mul, Nat.one_mul]
      rw [e1, e2] at hle
      rw [fill_one (i := j) (off := j * wd) (size := wd) rfl h1 h2 (by omega)]
      have hA : (cells.toList.take (j * wd)).length = j * wd := by rw [List.length_take]; simp; omega
      have hB : (cells.toList.take (j * wd) ++ cs).length = (j + 1) * wd := by rw [List.length_append, hA, h2, Nat.succ_mul]
      have hsz : ((cells.toList.take (j * wd) ++ cs ++ cells.toList.drop (j * wd + wd)).toArray).size = cells.size := by
        simp only [List.size_toArray, List.length_append, hA, h2, List.length_drop, Array.length_toList]; omega
      rw [fill_seq _ h3 (by rw [hsz, e2]; exact hle)]
      congr 2
      simp only [List.toList_toArray]
      rw [List.take_append_of_le_length (by omega), List.take_of_length_le (by omega), List.drop_append, List.drop_of_length_le (by rw [hB, e2, Nat.succ_mul]; omega), hB, List.nil_append, List.drop_drop, e1]
      simp only [List.append_assoc]
      congr 4
      rw [e2, Nat.succ_mul]
      omega

theorem all2_len {α β : Type} {Q : α → β → Prop} {l : List α} {m : List β} (h : All2 Q l m) : l.length = m.length := by
  induction h with
  | nil => rfl
  | cons _ _ ih => simp [ih]
theorem seq_ints {k : IntKind} : ∀ (ps : List (Nat × Option AVal)) (xs : List (Nat × Value)) (j : Nat) (l : List Int), parts ι ps xs → intsOf k j ps = some l → l.length = ps.length ∧ ∃ cs, Seq 1 j xs cs ∧ krel ι (l.map fun x => Sc.int k x) cs
  | [], [], j, l, _, h => by cases h; exact ⟨rfl, [], .nil, .nil⟩
  | [], _ :: _, _, _, h, _ => by cases h
  | p :: ps, xs, j, l, hp, h => by
    cases hp with
    | cons h1 h2 =>
      rename_i x xs
      obtain ⟨i, ov⟩ := p
      obtain ⟨i', X⟩ := x
      simp only [intsOf] at h
      split at h
      · rename_i k' y ys hj hsc hr
        have := beq_of hj; subst this
        split at h
        · rename_i hkk
          have := beqK_eq hkk; subst this
          cases h
          obtain ⟨q0, cs, q1, q2⟩ := seq_ints ps xs _ ys h2 hr
          have hov : ov = some (.c (.sc (.int k y))) := by
            unfold scOf at hsc
            split at hsc
            · cases hsc; rfl
            · cases hsc
          have hX : srel ι (.int k y) X := h1.2 _ hov
          have hone := srel_one hX trivial
          have : i = i' := h1.1
          subst this
          exact ⟨by simp [q0], [X] ++ cs, .cons hone.2 rfl q1, .cons ⟨hX, hone⟩ q2⟩
        · cases h
      · cases h
theorem seq_bytes : ∀ (ps : List (Nat × Option AVal)) (xs : List (Nat × Value)) (j : Nat) (l : Str), parts ι ps xs → bytesOf' j ps = some l → l.length = ps.length ∧ ∃ cs, Seq 1 j xs cs ∧ krel ι (l.map fun x => Sc.int .u8 (x.toNat : Int)) cs
  | [], [], j, l, _, h => by cases h; exact ⟨rfl, [], .nil, .nil⟩
  | [], _ :: _, _, _, h, _ => by cases h
  | p :: ps, xs, j, l, hp, h => by
    cases hp with
    | cons h1 h2 =>
      rename_i x xs
      obtain ⟨i, ov⟩ := p
      obtain ⟨i', X⟩ := x
      simp only [bytesOf'] at h
      split at h
      · rename_i y ys hj hsc hr
        have := beq_of hj; subst this
        cases h
        obtain ⟨q0, cs, q1, q2⟩ := seq_bytes ps xs _ ys h2 hr
        have hov : ov = some (.c (.sc (.int .u8 y))) := by
          unfold scOf at hsc
          split at hsc
          · cases hsc; rfl
          · cases hsc
        have hX : srel ι (.int .u8 y) X := h1.2 _ hov
        have hX2 : crel ι (.sc (.int .u8 ((UInt8.ofNat y.toNat).toNat : Int))) X := by
          rw [u8_back (srel_fine (s := .int .u8 y) hX)]
          exact hX
        have hone := srel_one (ι := ι) (s := .int .u8 ((UInt8.ofNat y.toNat).toNat : Int)) hX2 trivial
        have : i = i' := h1.1
        subst this
        exact ⟨by simp [q0], [X] ++ cs, .cons hone.2 rfl q1, .cons ⟨hX2, hone⟩ q2⟩
      · cases h
theorem seq_strs : ∀ (ps : List (Nat × Option AVal)) (xs : List (Nat × Value)) (j : Nat) (l : List Str), parts ι ps xs → strsOf j ps = some l → l.length = ps.length ∧ ∃ cs, Seq 1 j xs cs ∧ krel ι (l.map fun x => Sc.str x) cs
  | [], [], j, l, _, h => by cases h; exact ⟨rfl, [], .nil, .nil⟩
  | [], _ :: _, _, _, h, _ => by cases h
  | p :: ps, xs, j, l, hp, h => by
    cases hp with
    | cons h1 h2 =>
      rename_i x xs
      obtain ⟨i, ov⟩ := p
      obtain ⟨i', X⟩ := x
      simp only [strsOf] at h
      split at h
      · rename_i y ys hj hsc hr
        have := beq_of hj; subst this
        cases h
        obtain ⟨q0, cs, q1, q2⟩ := seq_strs ps xs _ ys h2 hr
        have hov : ov = some (.c (.sc (.str y))) := by
          unfold scOf at hsc
          split at hsc
          · cases hsc; rfl
          · cases hsc
        have hX : srel ι (.str y) X := h1.2 _ hov
        have hone := srel_one hX trivial
        have : i = i' := h1.1
        subst this
        exact ⟨by simp [q0], [X] ++ cs, .cons hone.2 rfl q1, .cons ⟨hX, hone⟩ q2⟩
      · cases h
theorem seq_recs {fs : List Fk} : ∀ (ps : List (Nat × Option AVal)) (xs : List (Nat × Value)) (j : Nat) (l : List (Tup fs)), parts ι ps xs → recsOf fs j ps = some l → l.length = ps.length ∧ ∃ cs, Seq fs.length j xs cs ∧ krel ι (l.flatMap (tupSc fs)) cs
  | [], [], j, l, _, h => by cases h; exact ⟨rfl, [], .nil, .nil⟩
  | [], _ :: _, _, _, h, _ => by cases h
  | p :: ps, xs, j, l, hp, h => by
    cases hp with
    | cons h1 h2 =>
      rename_i x xs
      obtain ⟨i, ov⟩ := p
      obtain ⟨i', X⟩ := x
      simp only [recsOf] at h
      split at h
      · rename_i g hj
        have := beq_of hj; subst this
        split at h
        · rename_i ol hol
          split at h
          · rename_i u us hu hr
            cases h
            obtain ⟨q0, cs, q1, q2⟩ := seq_recs ps xs _ us h2 hr
            obtain ⟨hwg, ys, hX, hky⟩ := h1.2 _ rfl
            have : i = i' := h1.1
            subst this
            have htu := tupOf_spec _ _ _ hu
            rw [onesOf_flats hol, ← htu] at hky
            refine ⟨by simp [q0], ys ++ cs, .cons (by rw [show X = .agg ys.toArray from hX]; rfl) ?_ q1, ?_⟩
            · rw [krel_len hky, tupSc_len]
            · rw [List.flatMap_cons]; exact krel_append hky q2
          · cases h
        · cases h
      · cases h

theorem good_buildSlice (hs : HSim ι I nx hp w) {t e : TypeId} {len : Nat} {ps : Array (Nat × Operand)} (hop : o.op = .buildSlice t len ps) {qs : List (Nat × Option AVal)} (hq : parts ι qs (ps.toList.map fun p => (p.1, ρ p.2)))
    (he : elemOf' P t = some e) {g : Seg} (hg : evRow P e len qs = some g) {wd : Nat} (hzw : zeroW P e = some wd) (hle : len * wd ≤ 16777216) (hw0 : 0 < wd) (hgw : g.width = wd)
    (h : K (.s (.slice nx wd none none)) [(nx, some ⟨true, [g]⟩)] 1 = some r) : Good P o ρ ι I nx hp w K r := by
  have ht : P.underlying t = some (.slice e) := by
    unfold elemOf' at he
    split at he
    · rename_i hu; cases he; exact hu
    · cases he
  obtain ⟨i, z, hi, hz, hzs, hsz, hcell⟩ := zeroW_spec hzw
  have hex : ∀ X w', (Instr.buildSlice t len (ps.map fun p => (p.1, ρ p.2))).run P w = .ok X w' → (execOp ρ o).run P w = .ok (.value X) w' := by
    intro X w' hX
    unfold execOp
    rw [hop]
    simp only [Sem.run_bind, hX, Result.andThen_ok, Sem.run_pure]
  have hpl : (ps.map fun p => (p.1, ρ p.2)).toList = ps.toList.map fun p => (p.1, ρ p.2) := by simp
  have hxl : (ps.toList.map fun p => (p.1, ρ p.2)).length = qs.length := by
    exact (all2_len hq).symm
  have hrow : qs.length = len ∧ g.wf ∧ g.cnt = len ∧ lenG g = len ∧ ∃ cs, Seq wd 0 (ps.toList.map fun p => (p.1, ρ p.2)) cs ∧ krel ι g.flat cs := by
    unfold evRow at hg
    split at hg
    · rename_i k _ _ hl hk
      have := beq_of hl
      split at hg
      · rename_i xs hxs
        cases hg
        obtain ⟨q0, cs, q1, q2⟩ := seq_ints _ _ _ _ hq hxs
        have : wd = 1 := hgw.symm
        subst this
        exact ⟨beq_of hl, by simp [Seg.wf]; omega, rfl, by simp [lenG]; omega, cs, q1, q2⟩
      · cases hg
    · rename_i hl hk
      split at hg
      · rename_i xs hxs
        cases hg
        obtain ⟨q0, cs, q1, q2⟩ := seq_bytes _ _ _ _ hq hxs
        have : wd = 1 := hgw.symm
        subst this
        have := beq_of hl
        exact ⟨beq_of hl, by simp [Seg.wf]; omega, rfl, by simp [lenG]; omega, cs, q1, q2⟩
      · cases hg
    · rename_i hl hk
      split at hg
      · rename_i xs hxs
        cases hg
        obtain ⟨q0, cs, q1, q2⟩ := seq_strs _ _ _ _ hq hxs
        have : wd = 1 := hgw.symm
        subst this
        have := beq_of hl
        exact ⟨beq_of hl, by simp [Seg.wf]; omega, rfl, by simp [lenG]; omega, cs, q1, q2⟩
      · cases hg
    · rename_i fs _ _ hl hk
      split at hg
      · rename_i xs hxs
        cases hg
        obtain ⟨q0, cs, q1, q2⟩ := seq_recs _ _ _ _ hq hxs
        have : wd = fs.length := hgw.symm
        subst this
        have := beq_of hl
        exact ⟨beq_of hl, by simp [Seg.wf]; omega, rfl, by simp [lenG]; omega, cs, q1, q2⟩
      · cases hg
    · cases hg
  obtain ⟨r1, r2, r3, r4, cs, r5, r6⟩ := hrow
  have hcl := r5.len
  rw [hxl, r1] at hcl
  have hfl : g.flat.length = len * wd := by rw [Seg.flat_len r2, size_cnt g (by omega), r3, hgw]
  let C0 : Array Value := (Array.range (len * wd)).map (fun j => (if len * wd = 0 then #[] else z.cells)[j % (if len * wd = 0 then #[] else z.cells : Array Value).size]!)
  have hC0 : C0.size = len * wd := by simp [C0]
  have hfill := fill_seq (wd := wd) C0 r5 (by rw [hC0, hxl, r1]; simp)
  have hres : (C0.toList.take (0 * wd) ++ cs ++ C0.toList.drop ((0 + (ps.toList.map fun p => (p.1, ρ p.2)).length) * wd)).toArray = cs.toArray := by
    rw [hxl, r1]
    simp [hC0]
  rw [hres] at hfill
  refine good_new hs (g := [g]) (wfs_cons.2 ⟨r2, fun _ h => by cases h⟩) (C := cs.toArray) (e := e) (fr := (0, 0)) (cap := len) (wd := wd) (x := .slice (some ⟨w.heap.size, 0, none⟩) len len) (w' := w.alloc (.cells cs.toArray e)) ?_ (by simp [hcl]) (by intro o _; simp) ?_ rfl rfl rfl rfl h ?_ (hex _ _ ?_)
  · rw [flats_one, hfl]; simp [hcl]
  · intro j y hy
    rw [flats_one] at hy
    obtain ⟨v, a, b⟩ := krel_at r6 j y hy
    exact ⟨v, by simpa using a, b⟩
  · intro ι' _ h1
    have hlm : len ≤ maxL := by
      have := Nat.le_mul_of_pos_right len hw0
      simp only [maxL]; omega
    exact ⟨_, _, _, _, rfl, hlm, hw0, Nat.le_refl _, by simp, h1, fun _ => rfl, by rw [flats_one, hfl], .inr ⟨w.heap.size, rfl, rfl, fun _ => rfl⟩⟩
  · unfold Instr.buildSlice
    have hn : ¬ len * wd > 2 ^ 24 := by omega
    simp only [Sem.run_bind, run_und ht, Result.andThen_ok, cells_run hcell, if_neg hn, Sem.run_pure]
    by_cases h0 : len * wd = 0
    · have e1 : C0 = (Array.range (len * wd)).map (fun j => (#[] : Array Value)[j % (#[] : Array Value).size]!) := by simp [C0, h0]
      simp only [h0, if_true, Sem.run_bind, Sem.run_pure, Result.andThen_ok]
      rw [hpl]
      rw [e1, h0] at hfill
      rw [hfill]
      simp [newRow]
    · have e1 : C0 = (Array.range (len * wd)).map (fun j => z.cells[j % z.cells.size]!) := by simp [C0, h0]
      simp only [h0, if_false, Sem.run_bind, run_zero hi hz, Result.andThen_ok, Sem.run_pure]
      rw [hpl]
      rw [e1] at hfill
      rw [hfill]
      simp [newRow]
end
end Go.Ev

namespace Go.Ev
section
variable {R : Type} {P : Program} {o : Oper} {ρ : Operand → Value} {ι : Map} {I : Nat → Prop} {nx : Nat} {hp : Nat → Option Blk} {w : World} {K : AVal → Eff → Nat → Option R} {r : R}

theorem rep_at {α : Type} (l : List α) (m : Nat) (hm : 0 < l.length) : ∀ (n i : Nat) (x : α), ((List.replicate n l).flatten)[i]? = some x → l[i % l.length]? = some x ∧ i < n * l.length
  | 0, i, x, h => by simp at h
  | n + 1, i, x, h => by
    rw [List.replicate_succ, List.flatten_cons] at h
    by_cases hi : i < l.length
    · rw [List.getElem?_append_left hi] at h
      exact ⟨by rw [Nat.mod_eq_of_lt hi]; exact h, by rw [Nat.succ_mul]; omega⟩
    · rw [List.getElem?_append_right (by omega)] at h
      obtain ⟨a, b⟩ := rep_at l m hm n _ x h
      refine ⟨?_, by rw [Nat.succ_mul]; omega⟩
      rw [Nat.mod_eq_sub_mod (by omega)]
      exact a
theorem zeroRow_flat {e : TypeId} {n : Nat} {g : Seg} (h : zeroRow P e n = some g) : g.flat = (List.replicate n (elemZ g)).flatten ∧ g.wf ∧ lenG g = n ∧ g.cnt = n ∧ (elemZ g).length = g.width := by
  unfold zeroRow at h
  split at h
  · cases h; exact ⟨by simp [Seg.flat, elemZ], by simp [Seg.wf], by simp [lenG], rfl, rfl⟩
  · cases h; exact ⟨by simp [Seg.flat, elemZ], by simp [Seg.wf], by simp [lenG], rfl, rfl⟩
  · cases h; exact ⟨by simp [Seg.flat, elemZ], by simp [Seg.wf], by simp [lenG], rfl, rfl⟩
  · rename_i fs _ _ _
    cases h
    refine ⟨?_, by simp [Seg.wf], by simp [lenG], rfl, tupSc_len _ _⟩
    simp only [Seg.flat, elemZ]
    induction n with
    | zero => rfl
    | succ n ih => rw [List.replicate_succ, List.flatMap_cons, List.replicate_succ, List.flatten_cons, ih]
  · cases h

theorem wrap_small {n : Int} (h0 : 0 ≤ n) (h1 : n ≤ 281474976710656) : IntKind.i64.wrap n = n := by
  simp [IntKind.wrap, IntKind.signed, IntKind.bits]
  omega

theorem good_makeSlice (hs : HSim ι I nx hp w) {t e : TypeId} {lo co : Operand} (hop : o.op = .makeSlice t lo co) (he : elemOf' P t = some e) {k1 k2 : IntKind} {a b : Int} (hl : srel ι (.int k1 a) (ρ lo)) (hc : srel ι (.int k2 b) (ρ co))
    {by_ wd : Nat} (hby : bytesOf P e = some by_) (hwd : cells P e = some wd) {g : Seg} (hg : zeroRow P e a.toNat = some g) (hcond : (Nat.blt 0 wd && Nat.blt 0 by_ && sameZ P e g && Nat.beq g.width wd) = true)
    (h : gd (makeB b by_) (gd (leB a b.toNat) (K (.s (.slice nx wd none none)) [(nx, some ⟨true, [g]⟩)] 1)) = some r) : Good P o ρ ι I nx hp w K r := by
  have ht : P.underlying t = some (.slice e) := by
    unfold elemOf' at he
    split at he
    · rename_i hu; cases he; exact hu
    · cases he
  simp only [Bool.and_eq_true] at hcond
  obtain ⟨⟨⟨q1, q2⟩, q3⟩, q4⟩ := hcond
  have hw0 : 0 < wd := by simpa [Nat.blt_eq] using q1
  have hb0 : 0 < by_ := by simpa [Nat.blt_eq] using q2
  have hgw := beq_of q4
  obtain ⟨g1, g2⟩ := gd_some h
  obtain ⟨g3, g4⟩ := gd_some g2
  have hmk : 0 ≤ b ∧ (by_ : Int) * b ≤ 281474976710656 := by simpa [makeB] using g1
  have hab := leB_spec g3
  have hb1 : b ≤ 281474976710656 := by
    have h1 : (1 : Int) * b ≤ (by_ : Int) * b := Int.mul_le_mul_of_nonneg_right (by omega) hmk.1
    omega
  obtain ⟨z1, z2, z3, z4, z5⟩ := zeroRow_flat hg
  rw [hgw] at z5
  have hz : ∃ i z, P.info? e = some i ∧ i.zero = some z ∧ krel ι (elemZ g) z.cells.toList ∧ i.bytes = by_ := by
    unfold sameZ at q3
    split at q3
    · rename_i i hi
      split at q3
      · rename_i z hz
        exact ⟨i, z, hi, hz, sameScs_spec q3, by unfold bytesOf at hby; rw [hi] at hby; simpa using hby⟩
      · cases q3
    · cases q3
  obtain ⟨i, z, hi, hzv, hkz, hbi⟩ := hz
  have hzl : z.cells.size = wd := by have := krel_len hkz; rw [z5] at this; simpa using this
  have hex : ∀ X w', (Instr.makeSlice t (ρ lo) (ρ co)).run P w = .ok X w' → (execOp ρ o).run P w = .ok (.value X) w' := by
    intro X w' hX
    unfold execOp
    rw [hop]
    simp only [Sem.run_bind, hX, Result.andThen_ok, Sem.run_pure]
  obtain ⟨hl1, _⟩ := hl
  obtain ⟨hc1, _⟩ := hc
  let C : Array Value := (Array.range (b.toNat * wd)).map (fun j => z.cells[j % z.cells.size]!)
  have hC : C.size = b.toNat * wd := by simp [C]
  have hle : a.toNat ≤ b.toNat := by omega
  have hfl : g.flat.length = a.toNat * wd := by rw [Seg.flat_len z2, size_cnt g (by omega), z4, hgw]
  refine good_new hs (g := [g]) (wfs_cons.2 ⟨z2, fun _ h => by cases h⟩) (C := C) (e := e) (fr := (0, 0)) (cap := b.toNat) (wd := wd) (x := .slice (some ⟨w.heap.size, 0, none⟩) a.toNat b.toNat) (w' := w.alloc (.cells C e)) ?_ (by rw [hC]; exact Nat.le_refl _) (by intro o _; simp) ?_ rfl rfl rfl rfl g4 ?_ (hex _ _ ?_)
  · rw [flats_one, hfl, hC]; exact Nat.mul_le_mul_right _ hle
  · intro j y hy
    rw [flats_one, z1] at hy
    obtain ⟨p1, p2⟩ := rep_at (elemZ g) 0 (by omega) _ _ _ hy
    rw [z5] at p1 p2
    obtain ⟨v, v1, v2⟩ := krel_at hkz _ _ p1
    refine ⟨v, ?_, v2⟩
    have hj : j < b.toNat * wd := Nat.lt_of_lt_of_le p2 (Nat.mul_le_mul_right _ hle)
    have hjm : j % wd < z.cells.size := by rw [hzl]; exact Nat.mod_lt _ hw0
    simp only [C]
    rw [Array.getElem?_map, Array.getElem?_range, if_pos hj]
    simp only [Option.map_some, hzl]
    rw [getElem!_pos z.cells (j % wd) hjm]
    rw [Array.getElem?_toList, Array.getElem?_eq_getElem hjm] at v1
    exact v1
  · intro ι' _ h1
    refine ⟨_, _, _, _, rfl, by simp only [maxL]; omega, hw0, hle, by simp, h1, fun _ => rfl, ?_, .inr ⟨w.heap.size, rfl, rfl, fun _ => rfl⟩⟩
    rw [flats_one, hfl]
  · have hwa := wrap_small hab.1 (show a ≤ 281474976710656 by omega)
    have hwb := wrap_small hmk.1 hb1
    have ht1 : (b < 0) = False := by simp; omega
    have htl : ¬ ((b < 0 ∨ 281474976710656 < (i.bytes : Int) * b) ∨ a < 0 ∨ b < a) := by rw [hbi]; omega
    unfold Instr.makeSlice
    simp only [Sem.run_bind, run_und ht, Result.andThen_ok, hl1, hc1, asInt, asIntOf, Sem.run_pure, run_info hi, hwa, hwb]
    rw [if_neg (by simp; omega)]
    simp only [Sem.run_pure, Result.andThen_ok, run_askRoom, Sem.run_bind, cells_run hwd]
    by_cases h0 : b.toNat * wd = 0
    · have e1 : C = (Array.range (b.toNat * wd)).map (fun j => (#[] : Array Value)[j % (#[] : Array Value).size]!) := by simp [C, h0]
      simp only [h0, if_true, Sem.run_pure, Result.andThen_ok]
      rw [h0] at e1
      simp [newRow, e1]
    · simp only [h0, if_false, Sem.run_bind, run_zero hi hzv, Result.andThen_ok, Sem.run_pure]
      simp [newRow, C]
end
end Go.Ev

namespace Go.Ev

/-- What holds of the world all along, whatever a function does to its own blocks: the library's tables, say. -/
class Amb where
  ok : (Nat → Prop) → World → Prop
  fr : ∀ {I : Nat → Prop} {w : World} {I' : Nat → Prop} {w' : World}, ok I w → Fr I w I' w' → ok I' w'
  /-- fewer blocks may be written -/
  sub : ∀ {I I' : Nat → Prop} {w : World}, ok I w → (∀ k, I' k → I k) → ok I' w
/-- What a call comes to. -/
def CallT [Amb] (P : Program) (g : FuncId) (args : List AVal) (hp : Nat → Option Blk) (nx : Nat) (Q : AVal → Eff → Nat → Prop) : Prop :=
  (∃ fn, P.funcs[g]? = some fn ∧ (fn.name == "runtime.NumGoroutine") = false ∧ fn.body.isSome = true) ∧
  ∀ (ι : Map) (I : Nat → Prop) (w : World) (xs : List Value), All2 (vrel ι) args xs → HSim ι I nx hp w → Amb.ok I w →
    Calls P g xs.toArray w fun e w' => ∃ v E cnt x ι' I', Q v E cnt ∧ e = .returned x ∧ vrel ι' v x ∧ HSim ι' I' (nx + cnt) (appE E hp) w' ∧ Map.up nx ι ι' ∧ Fr I w I' w'
/-- What a call comes to that the model answers by itself. -/
def CallE [Amb] (P : Program) (g : FuncId) (args : List AVal) (hp : Nat → Option Blk) (nx : Nat) (Q : AVal → Eff → Nat → Prop) : Prop :=
  ∀ (ι : Map) (I : Nat → Prop) (w : World) (xs : List Value), All2 (vrel ι) args xs → HSim ι I nx hp w → Amb.ok I w →
    ∃ v E cnt x w' ι' I', Q v E cnt ∧ (callFunc g xs.toArray).run P w = .ok (.value x) w' ∧ vrel ι' v x ∧ HSim ι' I' (nx + cnt) (appE E hp) w' ∧ Map.up nx ι ι' ∧ Fr I w I' w'
def CallsOK [Amb] (P : Program) (Γ : CallO) : Prop :=
  ∀ (R : Type) (g : FuncId) (args : List AVal) (hp : Nat → Option Blk) (nx : Nat) (K : AVal → Eff → Nat → Option R) (r : R), Γ R g args hp nx K = some r →
    CallT P g args hp nx (fun v E cnt => K v E cnt = some r) ∨ CallE P g args hp nx (fun v E cnt => K v E cnt = some r)

/-- The temporaries hold what is told of them. -/
structure ASim (ι : Map) (nt : Nat) (tm : Nat → Option AVal) (a : Act) : Prop where
  defers : a.defers = []
  size : a.tmps.size = nt
  vals : ∀ t v, tm t = some v → ∃ x, a.tmps[t]? = some x ∧ vrel ι v x
theorem ASim.mono {ι κ : Map} {nt : Nat} {tm : Nat → Option AVal} {a : Act} (h : ASim ι nt tm a) (hle : ι.le κ) : ASim κ nt tm a :=
  ⟨h.defers, h.size, fun t v ht => let ⟨x, b, c⟩ := h.vals t v ht; ⟨x, b, vrel_mono hle c⟩⟩

theorem constVal_spec {ι : Map} {c : Value} {v : AVal} (h : constVal c = some v) : vrel ι v c := by
  unfold constVal at h
  split at h
  · cases h; rfl
  · split at h
    · rename_i hf; cases h; exact ⟨rfl, fitsB_fits hf⟩
    · cases h
  · split at h
    · rename_i s hs
      cases h
      exact ⟨by simp, Nat.le_of_ble_eq_true hs⟩
    · cases h
  · cases h; rfl
  · cases h; rfl
  · cases h; rfl
  · cases h; rfl
  · cases h; exact .inl ⟨rfl, rfl⟩
  · cases h
theorem opnd_spec {ι : Map} {nt : Nat} {tm : Nat → Option AVal} {a : Act} (h : ASim ι nt tm a) {x : Operand} {v : AVal} (hx : evOpnd tm x = some v) : vrel ι v (a.eval x) := by
  cases x with
  | tmp t =>
    obtain ⟨y, h1, h2⟩ := h.vals t v hx
    simp only [Act.eval, Array.getD_eq_getD_getElem?, h1]
    exact h2
  | const c => exact constVal_spec hx
  | func f => cases hx; exact ⟨[], rfl, .nil⟩
  | global g => cases hx
theorem scOf_spec {v : Option AVal} {s : Sc} (h : scOf v = some s) : v = some (.s s) := by
  unfold scOf at h
  split at h
  · cases h; rfl
  · cases h
theorem opList_spec {ι : Map} {nt : Nat} {tm : Nat → Option AVal} {a : Act} (h : ASim ι nt tm a) : ∀ {l : List Operand} {vs : List AVal}, opList tm l = some vs → All2 (vrel ι) vs (l.map a.eval)
  | [], vs, hl => by cases hl; exact .nil
  | x :: l, vs, hl => by
    simp only [opList] at hl
    split at hl
    · rename_i v vs' h1 h2
      cases hl
      exact .cons (opnd_spec h h1) (opList_spec h h2)
    · cases hl
theorem parts_spec {ι : Map} {nt : Nat} {tm : Nat → Option AVal} {a : Act} (h : ASim ι nt tm a) : ∀ (l : List (Nat × Operand)), parts ι (l.map fun p => (p.1, evOpnd tm p.2)) (l.map fun p => (p.1, a.eval p.2))
  | [] => .nil
  | p :: l => .cons ⟨rfl, fun v hv => opnd_spec h hv⟩ (parts_spec h l)
theorem bound_spec {ι : Map} {nt : Nat} {tm : Nat → Option AVal} {a : Act} (h : ASim ι nt tm a) {x : Option Operand} {n : Option Int} (hx : bound tm x = some n) : brel n (x.map a.eval) := by
  unfold bound at hx
  split at hx
  · cases hx; rfl
  · split at hx
    · rename_i k m hv
      cases hx
      exact ⟨k, by rw [Option.map_some, (opnd_spec h hv : srel ι (.int k m) _).1]⟩
    · cases hx

/-- An operation, in whatever goes on behind it. -/
def OpOK {R : Type} (P : Program) (o : Oper) (a : Act) (w : World) (ι : Map) (I : Nat → Prop) (nx : Nat) (hp : Nat → Option Blk) (K : AVal → Eff → Nat → Option R) (r : R) : Prop :=
  ∀ (next : Act → World → Prop) (Q : Exit → Act → World → Prop),
    (∀ v E cnt x w' ι' I', K v E cnt = some r → vrel ι' v x → HSim ι' I' (nx + cnt) (appE E hp) w' → Map.up nx ι ι' → Fr I w I' w' → next (a.put o.dst x) w') → o.wp P a w next Q
section
variable {R : Type} {P : Program} {Γ : CallO} {o : Oper} {a : Act} {nt : Nat} {tm : Nat → Option AVal} {ι : Map} {I : Nat → Prop} {nx : Nat} {hp : Nat → Option Blk} {w : World} {K : AVal → Eff → Nat → Option R} {r : R}
theorem ok_of_good (h : Good P o a.eval ι I nx hp w K r) : OpOK P o a w ι I nx hp K r := by
  intro next Q hn
  obtain ⟨v, E, cnt, x, w', ι', I', h1, h2, h3, h4, h5, h6⟩ := h
  exact wp_of_res h6 (hn v E cnt x w' ι' I' h1 h2 h3 h4 h5)

theorem capsOf_spec {ι : Map} : ∀ {vs : List AVal} {xs : List Value} {l : List Nat}, All2 (vrel ι) vs xs → evOp.capsOf vs = some l →
    All2 (fun n x => ∃ l b, ι n = some l ∧ l.blk = some b ∧ x = Value.pointer (some ⟨b, l.off, none⟩) ∧ 0 < l.len) l xs
  | [], _, _, h, hl => by cases h; cases hl; exact .nil
  | v :: vs, _, l, h, hl => by
    cases h with
    | cons h1 h2 =>
      unfold evOp.capsOf at hl
      split at hl
      · rename_i heq; cases heq
      · rename_i n r' heq
        cases heq
        split at hl
        · rename_i l' hl'
          cases hl
          obtain ⟨lo, b, p1, p2, p3, p4⟩ := h1
          exact .cons ⟨lo, b, p1, p2, by rw [p3]; simp, by simpa using p4⟩ (capsOf_spec h2 hl')
        · cases hl
      · cases hl
theorem caps_args {ι : Map} : ∀ {caps : List Nat} {xs : List Value}, All2 (fun n x => ∃ l b, ι n = some l ∧ l.blk = some b ∧ x = Value.pointer (some ⟨b, l.off, none⟩) ∧ 0 < l.len) caps xs →
    All2 (vrel ι) (caps.map fun n => AVal.s (.ptr n 0 0 0 0)) xs
  | [], _, h => by cases h; exact .nil
  | n :: caps, _, h => by
    cases h with
    | cons h1 h2 =>
      obtain ⟨lo, b, p1, p2, p3, p4⟩ := h1
      exact .cons ⟨lo, b, p1, p2, by rw [p3]; simp, by simpa using p4⟩ (caps_args h2)
theorem all2_append {α β : Type} {Q : α → β → Prop} {l l' : List α} {m m' : List β} (h : All2 Q l m) (h' : All2 Q l' m') : All2 Q (l ++ l') (m ++ m') := by
  induction h with
  | nil => exact h'
  | cons a _ ih => exact .cons a ih

theorem ok_call [Amb] (hΓ : CallsOK P Γ) (ha : ASim ι nt tm a) (hs : HSim ι I nx hp w) (hA : Amb.ok I w) {c : Call} (ho : o.op = .call c) {f : Operand} (hc : c.callee = .value f) {vs : List AVal} (hvs : opList tm c.args.toList = some vs) {g : FuncId} {caps : List Nat}
    (hf : evOpnd tm f = some (.s (.fn g caps))) (h : Γ R g (vs ++ caps.map fun n => .s (.ptr n 0 0 0 0)) hp nx K = some r) : OpOK P o a w ι I nx hp K r := by
  intro next Q hn
  obtain ⟨xs, hx1, hx2⟩ := opnd_spec ha hf
  have hargs := opList_spec ha hvs
  have hall := all2_append hargs (caps_args hx2)
  have heq : (List.map a.eval c.args.toList ++ xs).toArray = c.args.map a.eval ++ xs.toArray := by
    apply Array.ext'
    simp
  rcases hΓ R g _ hp nx K r h with ⟨⟨fn, f1, f2, f3⟩, hcall⟩ | hcall
  · have hrun := hcall ι I w _ hall hs hA
    have hexe : (execOp a.eval o).run P w = .ok (.enter g ((c.args.map a.eval) ++ xs.toArray)) w := by
      unfold execOp
      rw [ho]
      simp only [resolve, hc, Sem.run_bind, hx1, Deferred.ofValue, Sem.run_pure, Result.andThen_ok, invoke, callFunc, run_program, f1]
      have hb : fn.body.isNone = false := by cases hb : fn.body <;> simp_all
      rw [f2, hb]
      simp
    unfold Oper.wp
    rw [hexe, Oper.upon_enter]
    rw [heq] at hrun
    refine hrun.mono ?_
    rintro e w' ⟨v, E, cnt, x, ι', I', k1, rfl, k2, k3, k4, k5⟩
    exact hn v E cnt x w' ι' I' k1 k2 k3 k4 k5
  · obtain ⟨v, E, cnt, x, w', ι', I', k1, k0, k2, k3, k4, k5⟩ := hcall ι I w _ hall hs hA
    rw [heq] at k0
    have hexe : (execOp a.eval o).run P w = .ok (.value x) w' := by
      unfold execOp
      rw [ho]
      simp only [resolve, hc, Sem.run_bind, hx1, Deferred.ofValue, Sem.run_pure, Result.andThen_ok, invoke]
      simpa using k0
    unfold Oper.wp
    rw [hexe]
    exact hn v E cnt x w' ι' I' k1 k2 k3 k4 k5
end
end Go.Ev

namespace Go.Ev
section
variable {R : Type} {P : Program} {Γ : CallO} {o : Oper} {a : Act} {nt : Nat} {tm : Nat → Option AVal} {ι : Map} {I : Nat → Prop} {nx : Nat} {hp : Nat → Option Blk} {w : World} {K : AVal → Eff → Nat → Option R} {r : R}

theorem un_sound {op : UnOp} {x : Sc} {X : Value} {K : Sc → Option R} (hx : srel ι x X) (h : evUn op x K = some r) : ∃ v V, K v = some r ∧ srel ι v V ∧ (Op.unary op X).run P w = .ok V w := by
  unfold evUn at h
  split at h
  · cases hx; exact ⟨_, _, h, rfl, rfl⟩
  · obtain ⟨rfl, _⟩ := hx
    exact ⟨_, _, h, ⟨rfl, fits_wrap _ _⟩, rfl⟩
  · obtain ⟨rfl, _⟩ := hx
    refine ⟨_, _, h, ⟨rfl, fits_wrap _ _⟩, rfl⟩
  · cases h

theorem lenSl_spec (P : Program) (hs : HSim ι I nx hp w) {s : Sc} {X : Value} (hx : srel ι s X) {n : Nat} (h : lenSl hp s = some n) : n ≤ maxL ∧ ∃ oa c, X = .slice oa n c := by
  unfold lenSl at h
  split at h
  · rename_i q wd cap
    cases hro : rowOf hp q wd with
    | none => rw [hro] at h; cases h
    | some row =>
      rw [hro] at h; cases h
      have hrow : sliceRow P hp 0 (.slice q wd none cap) = some row := hro
      obtain ⟨oa, c, e1, e2, _⟩ := row_any (P := P) hs hx hrow
      exact ⟨e2, oa, c, e1⟩
  · cases h
    obtain ⟨oa, l, c, lo, e1, e2, e3, e4, e5, e6, e7, e8, _⟩ := hx
    subst e8
    exact ⟨e2, oa, c, e1⟩
  · cases h
    exact ⟨Nat.zero_le _, none, 0, hx⟩
  · cases h

theorem builtin_sound (ha : ASim ι nt tm a) (hs : HSim ι I nx hp w) {c : Call} (ho : o.op = .call c) {b : Builtin} (hc : c.callee = .builtin b) {vs : List AVal} (hvs : opList tm c.args.toList = some vs)
    (h : evBuiltin P b c.argTypes.toList hp nx vs K = some r) : Good P o a.eval ι I nx hp w K r := by
  have hargs := opList_spec ha hvs
  have arr1 : ∀ {α : Type} (xs : Array α) (x : α), xs.toList = [x] → xs = #[x] := fun xs x h => by
    apply Array.ext'; simpa using h
  have arr2 : ∀ {α : Type} (xs : Array α) (x y : α), xs.toList = [x, y] → xs = #[x, y] := fun xs x y h => by
    apply Array.ext'; simpa using h
  have hl1 : ∀ v, vs = [v] → ∃ so, c.args = #[so] ∧ vrel ι v (a.eval so) := by
    intro v hvv
    subst hvv
    match hl : c.args.toList with
    | [so] =>
      rw [hl] at hargs
      cases hargs with
      | cons h1 _ => exact ⟨so, arr1 _ _ hl, h1⟩
    | [] => rw [hl] at hargs; cases hargs
    | _ :: _ :: _ => rw [hl] at hargs; cases hargs with | cons _ h2 => cases h2
  have hl2 : ∀ u v, vs = [u, v] → ∃ so xo, c.args = #[so, xo] ∧ vrel ι u (a.eval so) ∧ vrel ι v (a.eval xo) := by
    intro u v hvv
    subst hvv
    match hl : c.args.toList with
    | [so, xo] =>
      rw [hl] at hargs
      cases hargs with
      | cons h1 h2 => cases h2 with | cons h2 _ => exact ⟨so, xo, arr2 _ _ _ hl, h1, h2⟩
    | [] => rw [hl] at hargs; cases hargs
    | [_] => rw [hl] at hargs; cases hargs with | cons _ h2 => cases h2
    | _ :: _ :: _ :: _ => rw [hl] at hargs; cases hargs with | cons _ h2 => cases h2 with | cons _ h3 => cases h3
  unfold evBuiltin at h
  split at h
  · rename_i t s hts
    obtain ⟨so, hso, hx, hx2⟩ := hl1 _ rfl
    split at h
    · rename_i hu
      exact good_len hs ho hc (arr1 _ _ hts) hso hx hx2 hu (.inl ⟨rfl, _, rfl, size_mk s⟩) h
    · cases h
  · rename_i t v hne hts
    obtain ⟨so, hso, hx⟩ := hl1 _ rfl
    split at h
    · rename_i n e hu
      split at h
      · rename_i hn
        exact good_len hs ho hc (arr1 _ _ hts) hso rfl (Nat.le_of_ble_eq_true hn) hu (.inr (.inl ⟨e, rfl⟩)) h
      · cases h
    · rename_i e hu
      split at h
      · rename_i s
        split at h
        · rename_i n hn
          obtain ⟨q1, oa, cc, q2⟩ := lenSl_spec P hs hx hn
          exact good_len hs ho hc (arr1 _ _ hts) hso q2 q1 hu (.inr (.inr ⟨e, oa, cc, rfl, rfl⟩)) h
        · cases h
      · cases h
    · cases h
  · rename_i k x rest
    split at h
    · rename_i m hm
      generalize hxs : c.args.toList.map a.eval = xs at hargs
      cases hargs with
      | cons h1 h2 =>
        rename_i X Xs
        obtain ⟨hX, hf⟩ := h1
        obtain ⟨q1, q2⟩ := foldMn_run (P := P) (w := w) _ _ _ _ hf h2 hm
        refine good_pure hs h (x := .int k m) ⟨rfl, q1⟩ ?_
        obtain ⟨cs, he⟩ := exec_builtin (P := P) (ρ := a.eval) (w := w) ho hc
        rw [he]
        have : (Builtin.min_ c.argTypes o.type (c.args.map a.eval)).run P w = .ok (.int k m) w := by
          unfold Builtin.min_
          rw [Array.toList_map, hxs, hX]
          exact q2
        simp [builtin, this]
    · cases h
  · rename_i k x rest
    split at h
    · rename_i m hm
      generalize hxs : c.args.toList.map a.eval = xs at hargs
      cases hargs with
      | cons h1 h2 =>
        rename_i X Xs
        obtain ⟨hX, hf⟩ := h1
        obtain ⟨q1, q2⟩ := foldMx_run (P := P) (w := w) _ _ _ _ hf h2 hm
        refine good_pure hs h (x := .int k m) ⟨rfl, q1⟩ ?_
        obtain ⟨cs, he⟩ := exec_builtin (P := P) (ρ := a.eval) (w := w) ho hc
        rw [he]
        have : (Builtin.max_ c.argTypes o.type (c.args.map a.eval)).run P w = .ok (.int k m) w := by
          unfold Builtin.max_
          rw [Array.toList_map, hxs, hX]
          exact q2
        simp [builtin, this]
    · cases h
  · rename_i t u s x hts
    obtain ⟨so, xo, hso, h1, h2⟩ := hl2 _ _ rfl
    split at h
    · cases h
    · cases h
    · rename_i d hd1 hd2
      cases hu : P.underlying u with
      | none => exact (hd2 hu).elim
      | some d => exact good_append hs ho hc (arr2 _ _ _ hts) hso hu (fun k hk => by subst hk; exact hd1 _ hu) h1 h2 h
  · rename_i t d x hts
    obtain ⟨so, xo, hso, h1, h2⟩ := hl2 _ _ rfl
    exact good_copy hs ho hc (arr2 _ _ _ hts) hso h1 h2 h
  · cases h

theorem evOp_sound [Amb] (hΓ : CallsOK P Γ) (ha : ASim ι nt tm a) (hs : HSim ι I nx hp w) (hA : Amb.ok I w) (h : evOp P Γ o tm hp nx K = some r) : OpOK P o a w ι I nx hp K r := by
  have hv : ∀ {x : Operand} {v : AVal}, evOpnd tm x = some v → vrel ι v (a.eval x) := fun hx => opnd_spec ha hx
  have hsc : ∀ {x : Operand} {s : Sc}, scOf (evOpnd tm x) = some s → srel ι s (a.eval x) := fun hx => opnd_spec ha (scOf_spec hx)
  have hmv : ∀ {x : Operand} {v : AVal}, (execOp a.eval o).run P w = .ok (.value (a.eval x)) w → evOpnd tm x = some v → K v [] 0 = some r → OpOK P o a w ι I nx hp K r :=
    fun h1 h2 h3 => ok_of_good (good_pure hs h3 (hv h2) h1)
  unfold evOp at h
  split at h
  · -- move
    rename_i x hop
    split at h
    · rename_i v hx
      refine hmv ?_ hx h
      unfold execOp; rw [hop]; rfl
    · cases h
  · rename_i x hop
    split at h
    · rename_i v hx
      refine hmv ?_ hx h
      unfold execOp; rw [hop]; rfl
    · cases h
  · -- pick
    rename_i c x y hop
    split at h
    · rename_i hc
      split at h
      · rename_i v hx
        refine hmv ?_ hx h
        have : a.eval c = .bool true := hv hc
        unfold execOp; rw [hop]; simp only [Sem.run_bind, this, asBool]; rfl
      · cases h
    · rename_i hc
      split at h
      · rename_i v hx
        refine hmv ?_ hx h
        have : a.eval c = .bool false := hv hc
        unfold execOp; rw [hop]; simp only [Sem.run_bind, this, asBool]; rfl
      · cases h
    · cases h
  · -- alloc
    rename_i t hop
    split at h
    · rename_i g hz
      split at h
      · rename_i hpos
        obtain ⟨hwz, i, zv, hi, hzv, hkz⟩ := zeroS_spec (ι := ι) hz
        refine ok_of_good (good_var hs hwz (x := zv) (cs := zv.cells.toList) (by simp) hkz (t := t) h ?_ ?_)
        · rw [flats_len hwz]; simpa [Nat.blt_eq] using hpos
        · intro x' _ hx'
          unfold execOp; rw [hop]
          simp only [Instr.alloc, Sem.run_bind, run_zero hi hzv, Result.andThen_ok]
          rw [hx']
          simp [newVar, newRow]
      · cases h
    · cases h
  · -- box
    rename_i t x hop
    split at h
    · rename_i v hx
      split at h
      · rename_i g hg
        split at h
        · rename_i hpos
          obtain ⟨hwz, cs, hc, hk⟩ := segsOf_spec (hv hx) hg
          refine ok_of_good (good_var hs hwz hc hk (t := t) h ?_ ?_)
          · rw [flats_len hwz]; simpa [Nat.blt_eq] using hpos
          · intro x' _ hx'
            unfold execOp; rw [hop]
            rw [hx']
            simp [Instr.box, newVar, newRow]
        · cases h
      · cases h
    · cases h
  · -- build
    rename_i t ps hop
    split at h
    · rename_i g hg
      exact ok_of_good (good_build hs hop (parts_spec ha _) hg h)
    · cases h
  · -- buildSlice
    rename_i t len ps hop
    split at h
    · rename_i e he
      split at h
      · rename_i g wd hg hzw
        split at h
        · rename_i h1 h2
          rw [Bool.and_eq_true] at h2
          exact ok_of_good (good_buildSlice hs hop (parts_spec ha _) he hg hzw (Nat.le_of_ble_eq_true h1) (by simpa [Nat.blt_eq] using h2.1) (beq_of h2.2) h)
        · cases h
      · cases h
    · cases h
  · -- load
    rename_i t x hop
    split at h
    · rename_i n base ix wd f hx
      split at h
      · rename_i b hb
        exact ok_of_good (good_load hs hop (hsc hx) hb h)
      · cases h
    · cases h
  · -- store
    rename_i t x y hop
    split at h
    · rename_i n base ix wd f v size hx hy hsz
      split at h
      · rename_i b hb
        exact ok_of_good (good_store hs hop (hsc hx) (hv hy) hsz hb h)
      · cases h
    · cases h
  · -- nilCheck
    rename_i x hop
    split at h
    · rename_i n base ix wd f hx
      have hX := hsc hx
      refine ok_of_good (good_pure hs h hX ?_)
      obtain ⟨lo, b, p1, p2, p3, p4⟩ := hX
      unfold execOp; rw [hop]; simp only [p3]; rfl
    · rename_i f caps hx
      have hX := hsc hx
      refine ok_of_good (good_pure hs h hX ?_)
      obtain ⟨xs, p1, p2⟩ := hX
      unfold execOp; rw [hop]; simp only [p1]; rfl
    · cases h
  · -- binOp
    rename_i op t x y yt hop
    split at h
    · rename_i p q hx hy
      obtain ⟨v, V, k1, k2, k3⟩ := bin_sound (P := P) (w := w) (xo := x) (yo := y) (hv hx : srel ι p _) (hv hy : srel ι q _) h
      refine ok_of_good (good_pure hs k1 (x := V) k2 ?_)
      unfold execOp; rw [hop]
      simp only [Sem.run_bind, Sem.run_bind] at k3 ⊢
      rw [k3]; rfl
    · rename_i p q hx hy
      unfold evEqAgg at h
      obtain ⟨_, cs, hX, _⟩ := (hv hx : crel ι (.agg p) _)
      obtain ⟨_, ds, hY, _⟩ := (hv hy : crel ι (.agg q) _)
      split at h
      · rename_i rr hc heq
        obtain ⟨g1, g2⟩ := eqAgg_sound (hv hx : crel ι (.agg p) _) (hv hy : crel ι (.agg q) _) hc heq w x y
        refine ok_of_good (good_pure hs h (x := .bool rr) rfl ?_)
        unfold execOp; rw [hop]
        simp only [Sem.run_bind, g1, Result.andThen_ok]
        rw [hX, hY] at g2 ⊢
        rw [run_eql_struct, g2]; rfl
      · rename_i rr hc heq
        obtain ⟨g1, g2⟩ := eqAgg_sound (hv hx : crel ι (.agg p) _) (hv hy : crel ι (.agg q) _) hc heq w x y
        refine ok_of_good (good_pure hs h (x := .bool (!rr)) rfl ?_)
        unfold execOp; rw [hop]
        simp only [Sem.run_bind, g1, Result.andThen_ok]
        rw [hX, hY] at g2 ⊢
        rw [run_neq_struct, g2]; rfl
      · cases h
    · cases h
  · -- unOp
    rename_i op t x hop
    split at h
    · rename_i v hx
      obtain ⟨u, V, k1, k2, k3⟩ := un_sound (P := P) (w := w) (hsc hx) h
      refine ok_of_good (good_pure hs k1 (x := V) k2 ?_)
      unfold execOp; rw [hop]
      simp only [Sem.run_bind, k3, Result.andThen_ok, Sem.run_pure]
    · cases h
  · -- convert
    rename_i src dst x hop
    split at h
    · rename_i v hx
      exact ok_of_good (good_convert hs hop (hsc hx) h)
    · cases h
  · -- makeFunc
    rename_i f first captured hop
    split at h
    · rename_i vs hf hcap
      split at h
      · rename_i l hl
        have h1 := opList_spec ha hcap
        have h2 := capsOf_spec h1 hl
        refine ok_of_good (good_pure hs h (x := .func (.func f) #[] (captured.toList.map a.eval).toArray) ⟨_, rfl, h2⟩ ?_)
        unfold execOp; rw [hop]
        have hfe : first = #[] := by apply Array.ext'; simpa using hf
        simp [Instr.makeFunc, hfe]
        apply Array.ext'
        simp
      · cases h
    · cases h
  · -- makeSlice
    rename_i t l c hop
    split at h
    · rename_i e k1 x k2 y he hl hc
      split at h
      · rename_i by_ wd g hby hwd hg
        split at h
        · rename_i hcond
          exact ok_of_good (good_makeSlice hs hop he (hsc hl) (hsc hc) hby hwd hg hcond h)
        · cases h
      · cases h
    · cases h
  · -- slice
    rename_i t x lo hi mx hop
    split at h
    · rename_i v l' h' m' hx hl hh hm
      exact ok_of_good (good_slice hs hop (hsc hx) (bound_spec ha hl) (bound_spec ha hh) (bound_spec ha hm) h)
    · cases h
  · -- fieldAddr
    rename_i s x f hop
    split at h
    · rename_i n base ix wd fo off hx hoff
      exact ok_of_good (good_fieldAddr hs hop (hsc hx) hoff h)
    · cases h
  · -- indexAddr
    rename_i t x ix hop
    split at h
    · rename_i n base k i hx hi
      exact ok_of_good (good_indexArr hs hop (hsc hx) (hsc hi) h)
    · rename_i n wd rr cap k i hx hi
      exact ok_of_good (good_indexSl hs hop (hsc hx) (hsc hi) h)
    · cases h
  · -- index
    rename_i t x ix hop
    split at h
    · rename_i s k i hx hi
      split at h
      · rename_i hu
        exact ok_of_good (good_indexStr hs hop (hv hx) (hsc hi) hu h)
      · cases h
    · rename_i rr k i hx hi
      split at h
      · rename_i len e hu
        split at h
        · rename_i wd hwd
          split at h
          · rename_i hc
            exact ok_of_good (good_indexAgg hs hop (hv hx : crel ι (.agg [rr]) _) (hsc hi) hu hwd hc h)
          · cases h
        · cases h
      · cases h
    · cases h
  · -- sliceToArrayPointer
    rename_i t x hop
    split at h
    · rename_i n wd rr cap m e hx hu
      split at h
      · rename_i l sz hl hsz
        split at h
        · rename_i hm
          exact ok_of_good (good_toArray hs hop (hsc hx) hu hl hm h)
        · cases h
      · cases h
    · cases h
  · -- extract
    rename_i t ix hop
    split at h
    · rename_i vs ht
      split at h
      · rename_i v hvv
        exact ok_of_good (good_extract hs hop (hv ht) hvv h)
      · cases h
    · cases h
  · -- call
    rename_i c hop
    split at h
    · rename_i b vs hc hvs
      exact ok_of_good (builtin_sound ha hs hop hc hvs h)
    · rename_i f vs hc hvs
      split at h
      · rename_i g caps hf
        exact ok_call hΓ ha hs hA hop hc hvs (scOf_spec hf) h
      · cases h
    · cases h
  · cases h
end
end Go.Ev

namespace Go.Ev

/-- Names of one map, and what they are in another. -/
def Ren (m : Nat → Option Nat) (ι κ : Map) : Prop := ∀ n a l, m n = some a → ι n = some l → κ a = some l
section
variable {m : Nat → Option Nat} {ι κ : Map}
theorem mapL_spec (h : Ren m ι κ) : ∀ {caps l : List Nat} {xs : List Value}, mapL m caps = some l →
    All2 (fun n x => ∃ l b, ι n = some l ∧ l.blk = some b ∧ x = Value.pointer (some ⟨b, l.off, none⟩) ∧ 0 < l.len) caps xs →
    All2 (fun n x => ∃ l b, κ n = some l ∧ l.blk = some b ∧ x = Value.pointer (some ⟨b, l.off, none⟩) ∧ 0 < l.len) l xs
  | [], _, _, hm, hx => by cases hm; cases hx; exact .nil
  | n :: r, _, _, hm, hx => by
    cases hx with
    | cons h1 h2 =>
      unfold mapL at hm
      split at hm
      · rename_i a l' ha hl'
        cases hm
        obtain ⟨lo, b, p1, p2⟩ := h1
        exact .cons ⟨lo, b, h _ _ _ ha p1, p2⟩ (mapL_spec h hl' h2)
      · cases hm
theorem ren_sc (h : Ren m ι κ) {s : Sc} {v : Value} (hs : srel ι s v) : srel κ (s.ren m) v := by
  cases s with
  | ptr n base ix w f =>
    unfold Sc.ren
    cases hm : m n with
    | none => simp only [hm]; trivial
    | some a =>
      simp only [hm]
      obtain ⟨l, b, h1, h2⟩ := hs
      exact ⟨l, b, h _ _ _ hm h1, h2⟩
  | slice n w r c =>
    unfold Sc.ren
    cases hm : m n with
    | none => simp only [hm]; trivial
    | some a =>
      simp only [hm]
      obtain ⟨oa, l, c, lo, h1, h2, h3, h4, h5, h6, h7⟩ := hs
      exact ⟨oa, l, c, lo, h1, h2, h3, h4, h5, h _ _ _ hm h6, h7⟩
  | fn f caps =>
    unfold Sc.ren
    cases hm : mapL m caps with
    | none => simp only [hm]; trivial
    | some l =>
      simp only [hm]
      obtain ⟨xs, h1, h2⟩ := hs
      exact ⟨xs, h1, mapL_spec h hm h2⟩
  | mapr n =>
    unfold Sc.ren
    cases hm : m n with
    | none => simp only [hm]; trivial
    | some a =>
      simp only [hm]
      obtain ⟨l, b, h1, h2⟩ := hs
      exact ⟨l, b, h _ _ _ hm h1, h2⟩
  | _ => exact hs
theorem ren_sc_elSc (f : Fk) (x : El f) : (elSc f x).ren m = elSc f x := by cases f <;> rfl
theorem ren_tupSc : ∀ (fs : List Fk) (t : Tup fs), (tupSc fs t).map (Sc.ren m) = tupSc fs t
  | [], _ => rfl
  | f :: fs, t => by simp only [tupSc, List.map_cons, ren_sc_elSc, ren_tupSc fs]
theorem ren_flat (g : Seg) : (g.ren m).flat = g.flat.map (Sc.ren m) := by
  cases g with
  | one v => rfl
  | ints k xs n => simp [Seg.ren, Seg.flat, Sc.ren]
  | bytes xs n => simp [Seg.ren, Seg.flat, Sc.ren]
  | strs xs n => simp [Seg.ren, Seg.flat, Sc.ren]
  | recs fs xs n =>
    simp only [Seg.ren, Seg.flat, List.map_flatMap, ren_tupSc]
theorem ren_flats : ∀ (g : Segs), flats (Segs.ren m g) = (flats g).map (Sc.ren m)
  | [] => rfl
  | s :: g => by
    have := ren_flats g
    simp only [flats, Segs.ren, List.flatMap_cons, List.map_append, ren_flat] at this ⊢
    rw [this]
theorem ren_wf (g : Seg) (h : g.wf) : (g.ren m).wf := by cases g <;> exact h
theorem ren_wfs : ∀ (g : Segs), wfs g → wfs (Segs.ren m g)
  | [], _ => fun _ h => by cases h
  | s :: g, h => by
    rw [wfs_cons] at h
    show wfs (s.ren m :: Segs.ren m g)
    exact wfs_cons.2 ⟨ren_wf s h.1, ren_wfs g h.2⟩
theorem ren_krel (h : Ren m ι κ) {l : List Sc} {vs : List Value} (hl : krel ι l vs) : krel κ (l.map (Sc.ren m)) vs := by
  unfold krel at *
  induction hl with
  | nil => exact .nil
  | cons a _ ih => exact .cons ⟨ren_sc h a.1, a.2⟩ ih
theorem ren_c (h : Ren m ι κ) {x : Cmp} {v : Value} (hx : crel ι x v) : crel κ (x.ren m) v := by
  cases x with
  | sc s => exact ren_sc h hx
  | agg g =>
    obtain ⟨h1, cs, h2, h3⟩ := hx
    exact ⟨ren_wfs g h1, cs, h2, by rw [ren_flats]; exact ren_krel h h3⟩
theorem ren_cs (h : Ren m ι κ) : ∀ {vs : List Cmp} {xs : List Value}, All2 (crel ι) vs xs → All2 (crel κ) (Cmps.ren m vs) xs
  | [], _, hx => by cases hx; exact .nil
  | v :: vs, _, hx => by
    cases hx with
    | cons a b => exact .cons (ren_c h a) (ren_cs h b)
theorem ren_v (h : Ren m ι κ) {x : AVal} {v : Value} (hx : vrel ι x v) : vrel κ (x.ren m) v := by
  cases x with
  | c x => exact ren_c h hx
  | tup vs =>
    obtain ⟨xs, h1, h2⟩ := hx
    exact ⟨xs, h1, ren_cs h h2⟩
theorem ren_holds (h : Ren m ι κ) {w : World} {b : Nat} {lo : Loc} {g : Segs} (hh : Holds ι w b lo (flats g)) : Holds κ w b lo (flats (Segs.ren m g)) := by
  obtain ⟨C, e, fr, h1, h2, h3, h4, h5⟩ := hh.ex
  refine ⟨C, e, fr, h1, h2, h3, h4, ?_⟩
  intro i x hx
  rw [ren_flats, List.getElem?_map] at hx
  cases hg : (flats g)[i]? with
  | none => rw [hg] at hx; cases hx
  | some y =>
    rw [hg] at hx
    cases hx
    obtain ⟨v, a, b, c⟩ := h5 i y hg
    exact ⟨v, a, ren_sc h b, c⟩
theorem ren_blk (h : Ren m ι κ) {I : Nat → Prop} {w : World} {n k : Nat} {b : Blk} (hb : BlkOK ι I w n b) (hk : ∀ l, ι n = some l → κ k = some l) : BlkOK κ I w k ⟨b.rw, Segs.ren m b.g⟩ := by
  refine ⟨ren_wfs _ hb.wf, ?_⟩
  obtain ⟨lo, h1, h2, h3, h4⟩ := hb.ex
  refine ⟨lo, hk _ h1, ?_, h3, fun j hj => let ⟨p, q, r⟩ := h4 j hj; ⟨p, q, ren_holds h r⟩⟩
  rw [ren_flats, List.length_map, h2]
end

theorem idxN_spec : ∀ (L : List Nat) (j n a : Nat), idxN j L n = some a → j ≤ a ∧ L[a - j]? = some n
  | [], j, n, a, h => by cases h
  | b :: r, j, n, a, h => by
    unfold idxN at h
    split at h
    · rename_i hb
      cases h
      exact ⟨Nat.le_refl _, by simp [beq_of hb]⟩
    · obtain ⟨h1, h2⟩ := idxN_spec r (j + 1) n a h
      refine ⟨by omega, ?_⟩
      have : a - j = (a - (j + 1)) + 1 := by omega
      rw [this, List.getElem?_cons_succ, h2]
theorem nodupN_spec : ∀ {L : List Nat}, nodupN L = true → ∀ (i j n : Nat), L[i]? = some n → L[j]? = some n → i = j
  | [], _, i, j, n, hi, _ => by simp at hi
  | a :: r, h, i, j, n, hi, hj => by
    simp only [nodupN, Bool.and_eq_true, Bool.not_eq_true'] at h
    have hn : ∀ k : Nat, r[k]? = some a → False := fun k hk => by
      have := List.mem_of_getElem? hk
      have h1 : r.elem a = true := by simpa using this
      rw [h1] at h
      exact absurd h.1 (by simp)
    cases i with
    | zero =>
      simp at hi; subst hi
      cases j with
      | zero => rfl
      | succ j => exact (hn j (by simpa using hj)).elim
    | succ i =>
      cases j with
      | zero => simp at hj; subst hj; exact (hn i (by simpa using hi)).elim
      | succ j => rw [nodupN_spec h.2 i j n (by simpa using hi) (by simpa using hj)]
theorem look_layHp (hp : List (Nat × Blk)) (m : Nat → Option Nat) : ∀ (L : List Nat) (j k : Nat) (b : Blk), look (layHp hp m j L) k = some b →
    j ≤ k ∧ ∃ n b0, L[k - j]? = some n ∧ look hp n = some b0 ∧ b = ⟨b0.rw, Segs.ren m b0.g⟩
  | [], j, k, b, h => by cases h
  | n :: r, j, k, b, h => by
    unfold layHp at h
    have rest : look (layHp hp m (j + 1) r) k = some b → j ≤ k ∧ ∃ n' b0, (n :: r)[k - j]? = some n' ∧ look hp n' = some b0 ∧ b = ⟨b0.rw, Segs.ren m b0.g⟩ := by
      intro h
      obtain ⟨h1, n', b0, h2, h3⟩ := look_layHp hp m r (j + 1) k b h
      refine ⟨by omega, n', b0, ?_, h3⟩
      have : k - j = (k - (j + 1)) + 1 := by omega
      rw [this, List.getElem?_cons_succ, h2]
    split at h
    · rename_i b0 hb0
      unfold look at h
      split at h
      · rename_i hjk
        cases h
        have := beq_of hjk; subst this
        exact ⟨Nat.le_refl _, n, b0, by simp, hb0, rfl⟩
      · exact rest h
    · exact rest h
theorem look_keepTm (tm : List (Nat × AVal)) (m : Nat → Option Nat) : ∀ (keep : List Nat) (t : Nat) (v : AVal), look (mapTm m (keepTm tm keep)) t = some v → ∃ v0, look tm t = some v0 ∧ v = v0.ren m
  | [], t, v, h => by cases h
  | k :: r, t, v, h => by
    unfold keepTm at h
    split at h
    · rename_i v0 hv0
      simp only [mapTm, look] at h
      split at h
      · rename_i hkt
        cases h
        have := beq_of hkt; subst this
        exact ⟨v0, hv0, rfl⟩
      · exact look_keepTm tm m r t v h
    · exact look_keepTm tm m r t v h
theorem iotaN_get : ∀ (n s k : Nat), k < n → (iotaN s n)[k]? = some (s + k)
  | 0, s, k, h => by omega
  | n + 1, s, k, h => by
    cases k with
    | zero => simp [iotaN]
    | succ k => simp only [iotaN, List.getElem?_cons_succ]; rw [iotaN_get n (s + 1) k (by omega)]; congr 1; omega
theorem iotaN_len : ∀ (n s : Nat), (iotaN s n).length = n
  | 0, s => rfl
  | n + 1, s => by simp [iotaN, iotaN_len n (s + 1)]

/-- The map under the names of a list. -/
def laid (L : List Nat) (ι : Map) : Map := fun k => match L[k]? with
  | some n => ι n
  | none => none
theorem laid_ren {L : List Nat} {ι : Map} : Ren (idxN 0 L) ι (laid L ι) := by
  intro n a l h1 h2
  have := (idxN_spec L 0 n a h1).2
  simp only [laid]
  rw [Nat.sub_zero] at this
  rw [this]
  exact h2
theorem laid_heap {L : List Nat} {ι : Map} {I : Nat → Prop} {nx : Nat} {hp : List (Nat × Blk)} {w : World} (hd : nodupN L = true) (h : HSim ι I nx (look hp) w) : HSim (laid L ι) I L.length (look (layHp hp (idxN 0 L) 0 L)) w where
  fresh n hn := by
    refine ⟨by simp only [laid]; rw [List.getElem?_eq_none hn], ?_⟩
    cases hb : look (layHp hp (idxN 0 L) 0 L) n with
    | none => rfl
    | some b =>
      obtain ⟨h1, n', b0, h2, h3⟩ := look_layHp hp _ L 0 n b hb
      rw [Nat.sub_zero, List.getElem?_eq_none hn] at h2
      cases h2
  ok k b hb := by
    obtain ⟨h1, n, b0, h2, h3, rfl⟩ := look_layHp hp _ L 0 k b hb
    rw [Nat.sub_zero] at h2
    refine ren_blk laid_ren (h.ok n b0 h3) ?_
    intro l hl
    simp only [laid]; rw [h2]; exact hl
  inj i j a b x y k hne ha hb hr hx hy hxk hyk := by
    obtain ⟨_, n, a0, h2, h3, rfl⟩ := look_layHp hp _ L 0 i a ha
    obtain ⟨_, n', b0, h2', h3', rfl⟩ := look_layHp hp _ L 0 j b hb
    rw [Nat.sub_zero] at h2 h2'
    simp only [laid] at hx hy
    rw [h2] at hx
    rw [h2'] at hy
    refine h.inj n n' a0 b0 x y k ?_ h3 h3' hr hx hy hxk hyk
    rintro rfl
    exact hne (nodupN_spec hd i j n h2 h2')
  bound := h.bound
end Go.Ev

namespace Go.Ev

structure StSim (ι : Map) (I : Nat → Prop) (nt : Nat) (st : St) (a : Act) (w : World) : Prop where
  act : ASim ι nt (look st.tm) a
  heap : HSim ι I st.nx (look st.hp) w

theorem look_upd {α : Type} (l : List (Nat × α)) (n : Nat) (x : α) (m : Nat) : look (upd l n x) m = if m = n then some x else look l m := by
  induction l with
  | nil =>
    simp only [upd, look]
    by_cases h : m = n
    · subst h; simp [Nat.beq_refl]
    · rw [if_neg h]
      have : Nat.beq n m = false := by
        cases hb : Nat.beq n m with
        | false => rfl
        | true => exact (h (beq_of hb).symm).elim
      rw [this]
  | cons p l ih =>
    obtain ⟨a, y⟩ := p
    simp only [upd]
    cases hb : Nat.beq a n with
    | true =>
      have := beq_of hb; subst this
      simp only [look]
      by_cases h : m = a
      · subst h; simp [Nat.beq_refl]
      · rw [if_neg h]
        have : Nat.beq a m = false := by
          cases hb : Nat.beq a m with
          | false => rfl
          | true => exact (h (beq_of hb).symm).elim
        rw [this]
    | false =>
      simp only [look]
      cases hc : Nat.beq a m with
      | true =>
        have := beq_of hc; subst this
        have : a ≠ n := fun e => by subst e; rw [Nat.beq_refl] at hb; cases hb
        rw [if_neg this]
      | false => exact ih
theorem look_del {α : Type} (l : List (Nat × α)) (n m : Nat) : look (del l n) m = if m = n then none else look l m := by
  induction l with
  | nil => simp [del, look]
  | cons p l ih =>
    obtain ⟨a, y⟩ := p
    simp only [del]
    cases hb : Nat.beq a n with
    | true =>
      have := beq_of hb; subst this
      simp only [look]
      rw [ih]
      by_cases h : m = a
      · rw [if_pos h, if_pos h]
      · rw [if_neg h, if_neg h]
        have : Nat.beq a m = false := by
          cases hb : Nat.beq a m with
          | false => rfl
          | true => exact (h (beq_of hb).symm).elim
        rw [this]
    | false =>
      simp only [look]
      cases hc : Nat.beq a m with
      | true =>
        have := beq_of hc; subst this
        have : a ≠ n := fun e => by subst e; rw [Nat.beq_refl] at hb; cases hb
        rw [if_neg this]
      | false => exact ih
theorem look_applyE : ∀ (E : Eff) (h : List (Nat × Blk)), look (applyE E h) = appE E (look h)
  | [], h => rfl
  | (n, some g) :: r, h => by
    rw [applyE, look_applyE r, appE]
    congr 1
    funext m
    rw [look_upd]
    rfl
  | (n, none) :: r, h => by
    rw [applyE, look_applyE r, appE]
    congr 1
    funext m
    rw [look_del]
    rfl

theorem put_size (a : Act) (d : Option Tmp) (x : Value) : (a.put d x).tmps.size = a.tmps.size := by
  cases d <;> simp [Act.put]
theorem put_defers (a : Act) (d : Option Tmp) (x : Value) : (a.put d x).defers = a.defers := by
  cases d <;> rfl
theorem asim_put {ι : Map} {nt : Nat} {tm : List (Nat × AVal)} {a : Act} (h : ASim ι nt (look tm) a) {t : Nat} (ht : t < nt) {v : AVal} {x : Value} (hv : vrel ι v x) :
    ASim ι nt (look (upd tm t v)) (a.put (some t) x) := by
  refine ⟨by rw [put_defers]; exact h.defers, by rw [put_size]; exact h.size, ?_⟩
  intro u y hu
  rw [look_upd] at hu
  simp only [Act.put]
  by_cases hut : u = t
  · subst hut
    rw [if_pos rfl] at hu
    cases hu
    exact ⟨x, by rw [Array.getElem?_setIfInBounds]; simp [h.size, ht], hv⟩
  · rw [if_neg hut] at hu
    obtain ⟨z, h1, h2⟩ := h.vals u y hu
    exact ⟨z, by rw [Array.getElem?_setIfInBounds, if_neg (fun e => hut e.symm)]; exact h1, h2⟩
theorem stsim_after {ι : Map} {I : Nat → Prop} {nt : Nat} {st : St} {a : Act} {w : World} {d : Option Nat} {v : AVal} {E : Eff} {cnt : Nat} {x : Value}
    (ha : ASim ι nt (look st.tm) a) (hh : HSim ι I (st.nx + cnt) (appE E (look st.hp)) w) (hd : okDst nt d = true) (hv : vrel ι v x) : StSim ι I nt (st.after d v E cnt) (a.put d x) w := by
  constructor
  · cases d with
    | none => exact ⟨ha.defers, ha.size, ha.vals⟩
    | some t => exact asim_put ha (by simpa [okDst, Nat.blt_eq] using hd) hv
  · show HSim ι I (st.nx + cnt) (look (applyE E st.hp)) w
    rw [look_applyE]
    exact hh

theorem br_some {R : Type} {b : Bool} {x y : Option R} {r : R} (h : br b x y = some r) : (b = true ∧ x = some r) ∨ (b = false ∧ y = some r) := by
  cases b
  · exact .inr ⟨rfl, h⟩
  · exact .inl ⟨rfl, h⟩

end Go.Ev

namespace Go.Ev

/-- The blocks of some names alone. -/
def restrH (feet : Nat → Prop) [DecidablePred feet] (hp : Nat → Option Blk) (n : Nat) : Option Blk := if feet n then hp n else none
/-- What is told of names below a bound. -/
def below (m : Nat) (ι : Map) : Map := fun n => if n < m then ι n else none
def Own (feet : Nat → Prop) (hp : Nat → Option Blk) (ι : Map) (k : Nat) : Prop := ∃ n b lo, feet n ∧ hp n = some b ∧ b.rw = true ∧ ι n = some lo ∧ lo.blk = some k
theorem below_le (m : Nat) (ι : Map) : (below m ι).le ι := by
  intro n l h
  unfold below at h
  split at h
  · exact h
  · cases h
section
variable {ι : Map} {I : Nat → Prop} {nx m : Nat} {hp : Nat → Option Blk} {w : World} {feet : Nat → Prop} [DecidablePred feet]
theorem own_sub (hs : HSim ι I nx hp w) {k : Nat} (h : Own feet hp ι k) : I k := by
  obtain ⟨n, b, lo, _, h1, h2, h3, h4⟩ := h
  obtain ⟨lo', p1, _, _, p4⟩ := (hs.ok n b h1).ex
  rw [h3] at p1; cases p1
  exact (p4 k h4).1 h2
/-- A block that is not among those: its place is not theirs. -/
theorem own_not (hs : HSim ι I nx hp w) {q : Nat} {b : Blk} {lo : Loc} {k : Nat} (h1 : hp q = some b) (h2 : ¬ feet q) (h3 : ι q = some lo) (h4 : lo.blk = some k) : ¬ Own feet hp ι k := by
  rintro ⟨n, b', lo', g0, g1, g2, g3, g4⟩
  have hne : q ≠ n := fun e => h2 (by rw [e]; exact g0)
  exact hs.inj q n b b' lo lo' k hne h1 g1 (.inr g2) h3 g3 h4 g4
/-- What a value says, it says of names below a bound: 'srel' there. -/
theorem frame_in (hs : HSim ι I nx hp w) (hm : ∀ n, feet n → n < m) (hv : ∀ n b s, feet n → hp n = some b → s ∈ flats b.g → ∀ v, srel ι s v → srel (below m ι) s v) : HSim (below m ι) (Own feet hp ι) m (restrH feet hp) w where
  fresh n hn := by
    refine ⟨by unfold below; rw [if_neg (by omega)], ?_⟩
    unfold restrH
    rw [if_neg]
    intro h
    have := hm n h
    omega
  ok n b hb := by
    unfold restrH at hb
    split at hb
    · rename_i hf
      have ho := hs.ok n b hb
      refine ⟨ho.wf, ?_⟩
      obtain ⟨lo, h1, h2, h3, h4⟩ := ho.ex
      refine ⟨lo, by unfold below; rw [if_pos (hm n hf)]; exact h1, h2, h3, ?_⟩
      intro k hk
      obtain ⟨p1, p2, p3⟩ := h4 k hk
      refine ⟨fun hr => ⟨n, b, lo, hf, hb, hr, h1, hk⟩, fun hr ho => p2 hr (own_sub hs ho), ?_⟩
      obtain ⟨C, e, fr, g1, g2, g3, g4, g5⟩ := p3.ex
      refine ⟨C, e, fr, g1, g2, g3, g4, ?_⟩
      intro i x hx
      obtain ⟨v, a, c, d⟩ := g5 i x hx
      exact ⟨v, a, hv n b x hf hb (List.mem_of_getElem? hx) v c, d⟩
    · cases hb
  inj i j a b x y k hne ha hb hr hx hy hxk hyk := by
    unfold restrH at ha hb
    split at ha
    · split at hb
      · exact hs.inj i j a b x y k hne ha hb hr (below_le m ι i x hx) (below_le m ι j y hy) hxk hyk
      · cases hb
    · cases ha
  bound k hk := hs.bound k (own_sub hs hk)

/-- What is done to some blocks, and to new ones. -/
def EffOn (feet : Nat → Prop) (hp : Nat → Option Blk) (m cnt : Nat) : Eff → Prop
  | [] => True
  | (n, b) :: r => ((feet n ∧ (hp n).isSome = true) ∨ (m ≤ n ∧ n < m + cnt ∧ ∀ x, b = some x → x.rw = true)) ∧ EffOn feet hp m cnt r
theorem appE_off {cnt : Nat} {n : Nat} : ∀ {E : Eff} {h0 h : Nat → Option Blk}, EffOn feet h0 m cnt E → ¬ (feet n ∧ (h0 n).isSome = true) → ¬ (m ≤ n ∧ n < m + cnt) → appE E h n = h n
  | [], h0, h, _, _, _ => rfl
  | (k, b) :: E, h0, h, he, h1, h2 => by
    obtain ⟨h3, h4⟩ := he
    rw [appE, appE_off h4 h1 h2, put1_other]
    rintro rfl
    rcases h3 with h3 | h3
    · exact h1 h3
    · exact h2 ⟨h3.1, h3.2.1⟩
theorem appE_eq {n : Nat} : ∀ {E : Eff} {h h' : Nat → Option Blk}, h n = h' n → appE E h n = appE E h' n
  | [], h, h', e => e
  | (k, b) :: E, h, h', e => by
    rw [appE, appE]
    refine appE_eq ?_
    unfold put1
    split
    · rfl
    · exact e
theorem appE_new {cnt : Nat} {n : Nat} {b : Blk} : ∀ {E : Eff} {h0 h : Nat → Option Blk}, EffOn feet h0 m cnt E → (∀ k, feet k → k < m) → m ≤ n → (∀ x, h n = some x → x.rw = true) → appE E h n = some b → b.rw = true
  | [], h0, h, _, _, _, hh, hb => hh b hb
  | (k, c) :: E, h0, h, he, hm, hn, hh, hb => by
    obtain ⟨h3, h4⟩ := he
    rw [appE] at hb
    refine appE_new h4 hm hn ?_ hb
    intro x hx
    unfold put1 at hx
    split at hx
    · rename_i e
      subst e
      rcases h3 with h3 | h3
      · have := hm n h3.1; omega
      · exact h3.2.2 x hx
    · exact hh x hx

theorem frame_out {cnt NX : Nat} {E : Eff} {κ : Map} {J : Nat → Prop} {w' : World} (hs : HSim ι I nx hp w) (hm : ∀ n, feet n → n < m) (hE : EffOn feet hp m cnt E) (hfree : ∀ n, m ≤ n → n < m + cnt → ι n = none ∧ hp n = none)
    (hnx : nx ≤ NX) (hNX : m + cnt ≤ NX) (ho : HSim κ J (m + cnt) (appE E (restrH feet hp)) w') (hup : Map.up m (below m ι) κ) (hfr : Fr (Own feet hp ι) w J w') :
    ∃ ι' I', HSim ι' I' NX (appE E hp) w' ∧ ι.le ι' ∧ κ.le ι' ∧ Fr I w I' w' ∧ ∀ n, ¬ (m ≤ n ∧ n < m + cnt) → ι' n = ι n := by
  have hle := hup.1
  have hsub : ∀ {k : Nat}, Own feet hp ι k → I k := fun h => own_sub hs h
  let ι' : Map := fun n => if m ≤ n ∧ n < m + cnt then κ n else ι n
  have hι : ι.le ι' := by
    intro n l h
    show (if m ≤ n ∧ n < m + cnt then κ n else ι n) = some l
    rw [if_neg]
    · exact h
    · rintro ⟨h1, h2⟩
      rw [(hfree n h1 h2).1] at h; cases h
  have hκ : κ.le ι' := by
    intro n l h
    show (if m ≤ n ∧ n < m + cnt then κ n else ι n) = some l
    rcases Nat.lt_or_ge n m with h1 | h1
    · rw [if_neg (by omega)]
      rw [hup.2 n h1] at h
      exact below_le m ι n l h
    · have h2 : n < m + cnt := by
        rcases Nat.lt_or_ge n (m + cnt) with h2 | h2
        · exact h2
        · rw [(ho.fresh n h2).1] at h; cases h
      rw [if_pos ⟨h1, h2⟩]; exact h
  have hold : ∀ {n : Nat}, ¬ (m ≤ n ∧ n < m + cnt) → ι' n = ι n := fun {n} h => if_neg h
  -- a name of the footprint keeps its place
  have hat : ∀ {n : Nat} {b : Blk}, feet n → hp n = some b → ∃ lo, ι n = some lo ∧ κ n = some lo := by
    intro n b h1 h2
    obtain ⟨lo, p1, _⟩ := (hs.ok n b h2).ex
    refine ⟨lo, p1, hle n lo ?_⟩
    unfold below
    rw [if_pos (hm n h1)]; exact p1
  have hval : ∀ {q : Nat} {b : Blk}, appE E hp q = some b →
      (appE E (restrH feet hp) q = some b ∧ ((feet q ∧ (∃ c, hp q = some c) ∧ ∃ lo, ι q = some lo ∧ κ q = some lo ∧ ι' q = some lo) ∨ (m ≤ q ∧ q < m + cnt ∧ b.rw = true ∧ ι' q = κ q))) ∨
      (hp q = some b ∧ ¬ feet q ∧ ι' q = ι q) := by
    intro q b hq
    by_cases hnew : m ≤ q ∧ q < m + cnt
    · left
      have h1 := (hfree q hnew.1 hnew.2).2
      have h2 : restrH feet hp q = none := by
        unfold restrH
        rw [if_neg]
        intro h; have := hm q h; omega
      refine ⟨by rw [← hq]; exact appE_eq (by rw [h1, h2]), .inr ⟨hnew.1, hnew.2, ?_, if_pos hnew⟩⟩
      exact appE_new hE hm hnew.1 (fun x hx => by rw [h1] at hx; cases hx) hq
    · by_cases hf : feet q ∧ (hp q).isSome = true
      · left
        obtain ⟨c, hc⟩ := Option.isSome_iff_exists.1 hf.2
        obtain ⟨lo, l1, l2⟩ := hat hf.1 hc
        refine ⟨by rw [← hq]; exact appE_eq (by unfold restrH; rw [if_pos hf.1]), .inl ⟨hf.1, ⟨c, hc⟩, lo, l1, l2, hι q lo l1⟩⟩
      · right
        rw [appE_off hE hf hnew] at hq
        exact ⟨hq, fun h => hf ⟨h, by rw [hq]; rfl⟩, hold hnew⟩
  refine ⟨ι', fun k => (I k ∧ ¬ Own feet hp ι k) ∨ J k, ⟨?_, ?_, ?_, ?_⟩, hι, hκ, ?_, fun n h => hold h⟩
  · intro n hn
    have hnn : ¬ (m ≤ n ∧ n < m + cnt) := by omega
    refine ⟨by rw [hold hnn]; exact (hs.fresh n (by omega)).1, ?_⟩
    rw [appE_off hE ?_ hnn]
    · exact (hs.fresh n (by omega)).2
    · rintro ⟨h1, h2⟩
      rw [(hs.fresh n (by omega)).2] at h2; cases h2
  · intro q b hq
    rcases hval hq with ⟨h1, h2⟩ | ⟨h1, h2, h3⟩
    · have hb := ho.ok q b h1
      obtain ⟨lo, p1, p2, p3, p4⟩ := hb.ex
      refine ⟨hb.wf, lo, hκ q lo p1, p2, p3, ?_⟩
      intro k hk
      obtain ⟨r1, r2, r3⟩ := p4 k hk
      refine ⟨fun hr => .inr (r1 hr), ?_, r3.mono hκ rfl⟩
      rintro hr (⟨u1, u2⟩ | u1)
      · rcases h2 with ⟨f1, ⟨c, f2⟩, lo', l1, l2, l3⟩ | ⟨_, _, l4, _⟩
        · rw [l2] at p1; cases p1
          obtain ⟨lo2, s1, _, _, s4⟩ := (hs.ok q c f2).ex
          rw [l1] at s1; cases s1
          cases hc : c.rw with
          | true => exact u2 ⟨q, c, _, f1, f2, hc, l1, hk⟩
          | false => exact (s4 k hk).2.1 hc u1
        · rw [l4] at hr; cases hr
      · exact r2 hr u1
    · have hb := hs.ok q b h1
      obtain ⟨lo, p1, p2, p3, p4⟩ := hb.ex
      refine ⟨hb.wf, lo, hι q lo p1, p2, p3, ?_⟩
      intro k hk
      obtain ⟨r1, r2, r3⟩ := p4 k hk
      have hno := own_not hs h1 h2 p1 hk
      refine ⟨fun hr => .inl ⟨r1 hr, hno⟩, ?_, r3.mono hι (hfr.same k r3.lt hno)⟩
      rintro hr (⟨u1, _⟩ | u1)
      · exact r2 hr u1
      · rcases hfr.own k u1 with u | u
        · exact hno u
        · have := r3.lt; omega
  · intro p q a b x y k hne ha hb hr hx hy hxk hyk
    have mix : ∀ {p q : Nat} {a b : Blk} {x y : Loc}, appE E (restrH feet hp) p = some a → ((feet p ∧ (∃ c, hp p = some c) ∧ ∃ lo, ι p = some lo ∧ κ p = some lo ∧ ι' p = some lo) ∨ (m ≤ p ∧ p < m + cnt ∧ a.rw = true ∧ ι' p = κ p)) →
        hp q = some b → ¬ feet q → ι' q = ι q → (a.rw = true ∨ b.rw = true) → ι' p = some x → ι' q = some y → x.blk = some k → y.blk = some k → False := by
      intro p q a b x y h1 h2 g1 g2 g3 hr hx hy hxk hyk
      rw [g3] at hy
      have hno := own_not hs g1 g2 hy hyk
      rcases h2 with ⟨f1, ⟨c, f2⟩, lo', l1, l2, l3⟩ | ⟨f1, f2, f3, l3⟩
      · rw [l3] at hx; cases hx
        have hne : p ≠ q := fun e => g2 (by rw [← e]; exact f1)
        cases hc : c.rw with
        | true => exact hs.inj p q c b _ y k hne f2 g1 (.inl hc) l1 hy hxk hyk
        | false =>
          rcases hr with hr | hr
          · obtain ⟨lo2, s1, _, _, s4⟩ := (ho.ok p a h1).ex
            rw [l2] at s1; cases s1
            have hj := (s4 k hxk).1 hr
            obtain ⟨lo3, t1, _, _, t4⟩ := (hs.ok p c f2).ex
            rw [l1] at t1; cases t1
            rcases hfr.own k hj with u | u
            · exact (t4 k hxk).2.1 hc (hsub u)
            · have := (t4 k hxk).2.2.lt; omega
          · exact hs.inj p q c b _ y k hne f2 g1 (.inr hr) l1 hy hxk hyk
      · rw [l3] at hx
        obtain ⟨lo2, s1, _, _, s4⟩ := (ho.ok p a h1).ex
        rw [hx] at s1; cases s1
        have hj := (s4 k hxk).1 f3
        rcases hfr.own k hj with u | u
        · exact hno u
        · obtain ⟨lo3, t1, _, _, t4⟩ := (hs.ok q b g1).ex
          rw [hy] at t1; cases t1
          have := (t4 k hyk).2.2.lt; omega
    rcases hval ha with ⟨h1, h2⟩ | ⟨h1, h2, h3⟩
    · rcases hval hb with ⟨g1, g2⟩ | ⟨g1, g2, g3⟩
      · have e1 : κ p = some x := by
          rcases h2 with ⟨_, _, lo, l1, l2, l3⟩ | ⟨_, _, _, l3⟩
          · rw [l3] at hx; cases hx; exact l2
          · rw [← l3]; exact hx
        have e2 : κ q = some y := by
          rcases g2 with ⟨_, _, lo, l1, l2, l3⟩ | ⟨_, _, _, l3⟩
          · rw [l3] at hy; cases hy; exact l2
          · rw [← l3]; exact hy
        exact ho.inj p q a b x y k hne h1 g1 hr e1 e2 hxk hyk
      · exact mix h1 h2 g1 g2 g3 hr hx hy hxk hyk
    · rcases hval hb with ⟨g1, g2⟩ | ⟨g1, g2, g3⟩
      · exact mix g1 g2 h1 h2 h3 hr.symm hy hx hyk hxk
      · rw [h3] at hx
        rw [g3] at hy
        exact hs.inj p q a b x y k hne h1 g1 hr hx hy hxk hyk
  · intro k hk
    rcases hk with ⟨h1, _⟩ | h1
    · exact Nat.lt_of_lt_of_le (hs.bound k h1) hfr.size
    · exact ho.bound k h1
  · refine ⟨fun k hk hI => hfr.same k hk (fun h => hI (hsub h)), ?_, hfr.size, hfr.os, hfr.tape, hfr.output⟩
    rintro k (⟨h1, _⟩ | h1)
    · exact .inl h1
    · exact (hfr.own k h1).imp hsub id
end
end Go.Ev

namespace Go.Ev

def idLt (N : Nat) (n : Nat) : Option Nat := if n < N then some n else none
theorem idLt_ren (N : Nat) (ι : Map) : Ren (idLt N) ι (below N ι) := by
  intro n a l h1 h2
  unfold idLt at h1
  split at h1
  · cases h1; unfold below; rw [if_pos (by assumption)]; exact h2
  · cases h1
theorem allLt_spec {N : Nat} {l : List Nat} (h : allLt N l = true) : ∀ n ∈ l, n < N := by
  intro n hn
  have := List.all_eq_true.1 h n hn
  simpa [Nat.blt_eq] using this
theorem mapL_id {N : Nat} : ∀ {l : List Nat}, (∀ n ∈ l, n < N) → mapL (idLt N) l = some l
  | [], _ => rfl
  | n :: r, h => by
    have h1 : idLt N n = some n := by unfold idLt; rw [if_pos (h n (by simp))]
    have h2 : mapL (idLt N) r = some r := mapL_id (fun m hm => h m (by simp [hm]))
    simp only [mapL, h1, h2]
theorem sc_id {N : Nat} {s : Sc} (h : ∀ n ∈ s.names, n < N) : s.ren (idLt N) = s := by
  cases s with
  | ptr n base ix w f =>
    have h1 : idLt N n = some n := by unfold idLt; rw [if_pos (h n (by simp [Sc.names]))]
    simp only [Sc.ren, h1]
  | slice n w r c =>
    have h1 : idLt N n = some n := by unfold idLt; rw [if_pos (h n (by simp [Sc.names]))]
    simp only [Sc.ren, h1]
  | fn f caps =>
    simp only [Sc.ren, mapL_id (fun n hn => h n (by simpa [Sc.names] using hn))]
  | mapr n =>
    have h1 : idLt N n = some n := by unfold idLt; rw [if_pos (h n (by simp [Sc.names]))]
    simp only [Sc.ren, h1]
  | _ => rfl
theorem seg_id {N : Nat} {g : Seg} (h : ∀ n ∈ g.names, n < N) : g.ren (idLt N) = g := by
  cases g with
  | one v => simp only [Seg.ren, sc_id h]
  | _ => rfl
theorem segs_id {N : Nat} : ∀ {g : Segs}, (∀ n ∈ Segs.names g, n < N) → Segs.ren (idLt N) g = g
  | [], _ => rfl
  | s :: g, h => by
    simp only [Segs.ren]
    rw [seg_id (fun n hn => h n (by simp [Segs.names, hn])), segs_id (fun n hn => h n (by simp [Segs.names, hn]))]
theorem cmp_id {N : Nat} {x : Cmp} (h : ∀ n ∈ x.names, n < N) : x.ren (idLt N) = x := by
  cases x with
  | sc v => simp only [Cmp.ren, sc_id h]
  | agg g => simp only [Cmp.ren, segs_id h]
theorem cmps_id {N : Nat} : ∀ {l : List Cmp}, (∀ n ∈ Cmps.names l, n < N) → Cmps.ren (idLt N) l = l
  | [], _ => rfl
  | c :: l, h => by
    simp only [Cmps.ren]
    rw [cmp_id (fun n hn => h n (by simp [Cmps.names, hn])), cmps_id (fun n hn => h n (by simp [Cmps.names, hn]))]
theorem val_id {N : Nat} {v : AVal} (h : ∀ n ∈ v.names, n < N) : v.ren (idLt N) = v := by
  cases v with
  | c x => simp only [AVal.ren, cmp_id h]
  | tup vs => simp only [AVal.ren, cmps_id h]
theorem val_below {N : Nat} {ι : Map} {v : AVal} {x : Value} (h : ∀ n ∈ v.names, n < N) (hv : vrel ι v x) : vrel (below N ι) v x := by
  have := ren_v (idLt_ren N ι) hv
  rwa [val_id h] at this
theorem tup_names : ∀ (fs : List Fk) (t : Tup fs) (s : Sc), s ∈ tupSc fs t → s.names = []
  | [], _, s, h => by cases h
  | f :: fs, t, s, h => by
    simp only [tupSc, List.mem_cons] at h
    rcases h with rfl | h
    · cases f <;> rfl
    · exact tup_names fs t.2 s h
theorem flat_names {g : Segs} {s : Sc} (hs : s ∈ flats g) : ∀ n ∈ s.names, n ∈ Segs.names g := by
  induction g with
  | nil => cases hs
  | cons a g ih =>
    intro n hn
    simp only [flats, List.flatMap_cons, List.mem_append] at hs
    simp only [Segs.names, List.mem_append]
    rcases hs with hs | hs
    · left
      cases a with
      | one v => simp only [Seg.flat, List.mem_singleton] at hs; subst hs; exact hn
      | ints k xs m => simp only [Seg.flat, List.mem_map] at hs; obtain ⟨_, _, rfl⟩ := hs; cases hn
      | bytes xs m => simp only [Seg.flat, List.mem_map] at hs; obtain ⟨_, _, rfl⟩ := hs; cases hn
      | strs xs m => simp only [Seg.flat, List.mem_map] at hs; obtain ⟨_, _, rfl⟩ := hs; cases hn
      | recs fs xs m =>
        simp only [Seg.flat, List.mem_flatMap] at hs
        obtain ⟨t, _, ht⟩ := hs
        rw [tup_names fs t s ht] at hn
        cases hn
    · exact .inr (ih hs n hn)
theorem sc_below {N : Nat} {ι : Map} {s : Sc} {x : Value} (h : ∀ n ∈ s.names, n < N) (hv : srel ι s x) : srel (below N ι) s x := by
  have := ren_sc (idLt_ren N ι) hv
  rwa [sc_id h] at this

/-- An operation that looks at some temporaries and blocks alone, and makes names from one on. -/
theorem op_view [Amb] {R : Type} {P : Program} {Γ : CallO} (hΓ : CallsOK P Γ) {o : Oper} {a : Act} {nt : Nat} {tm : Nat → Option AVal} {ι : Map} {I : Nat → Prop} {nx m : Nat} {hp : Nat → Option Blk} {w : World}
    {feet : List Nat} {K : AVal → Eff → Nat → Option R} {r : R}
    (ha : ASim ι nt tm a) (hs : HSim ι I nx hp w) (hA : Amb.ok I w) (hf : ∀ n ∈ feet, n < m)
    (ht : ∀ t v, tm t = some v → ∀ n ∈ v.names, n < m) (hh : ∀ n ∈ feet, ∀ b, hp n = some b → ∀ k ∈ Segs.names b.g, k < m)
    (h : evOp P Γ o tm (restr feet hp) m K = some r)
    (hE : ∀ v E cnt, K v E cnt = some r → EffOn (· ∈ feet) hp m cnt E ∧ ∀ n, m ≤ n → n < m + cnt → ι n = none ∧ hp n = none) :
    ∀ (next : Act → World → Prop) (Q : Exit → Act → World → Prop),
      (∀ v E cnt x w' ι' I', K v E cnt = some r → vrel ι' v x → HSim ι' I' (max nx (m + cnt)) (appE E hp) w' → ι.le ι' → (∀ n, ¬ (m ≤ n ∧ n < m + cnt) → ι' n = ι n) → Fr I w I' w' → next (a.put o.dst x) w') → o.wp P a w next Q := by
  intro next Q hn
  have hre : restr feet hp = restrH (· ∈ feet) hp := by
    funext n
    unfold restr restrH
    by_cases hm : n ∈ feet
    · rw [if_pos hm, show feet.elem n = true by simpa using hm]
    · rw [if_neg hm, show feet.elem n = false by simpa using hm]
  have hin := frame_in (feet := (· ∈ feet)) (m := m) hs hf (fun n b s hn hb hsm v hv => sc_below (fun k hk => hh n hn b hb k (flat_names hsm k hk)) hv)
  rw [← hre] at hin
  have ha' : ASim (below m ι) nt tm a := ⟨ha.defers, ha.size, fun t v htv => let ⟨x, p, q⟩ := ha.vals t v htv; ⟨x, p, val_below (ht t v htv) q⟩⟩
  have hA' : Amb.ok (Own (· ∈ feet) hp ι) w := Amb.sub hA (fun k hk => own_sub hs hk)
  refine evOp_sound hΓ ha' hin hA' h next Q ?_
  intro v E cnt x w' ι' I' k1 k2 k3 k4 k5
  obtain ⟨e1, e2⟩ := hE v E cnt k1
  rw [hre] at k3
  obtain ⟨ι2, I2, q1, q2, q3, q4, q5⟩ := frame_out (NX := max nx (m + cnt)) hs hf e1 e2 (Nat.le_max_left _ _) (Nat.le_max_right _ _) k3 k4 k5
  exact hn v E cnt x w' ι2 I2 k1 (vrel_mono q3 k2) q1 q2 q5 q4
end Go.Ev
