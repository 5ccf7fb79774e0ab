/- What was done to a tree, undone; no condition, no program. -/
import Derived.Test.YthblflnfhdnpdaaGreatDoorQa7
namespace Go.Proofs.YthblflnfhdnpdaaGreatDoor
set_option linter.unusedSimpArgs false
set_option linter.unusedVariables false
open Go Go.RowKit

/-- What undoes something; e: what was at the path. -/
def backOp (op : Op) (e : Option Ent) : Op :=
  if op.kind = 5 then ⟨5, op.dest, op.path, []⟩
  else if op.kind = 4 then ⟨1, op.path, [], []⟩
  else if op.kind = 3 ∨ (op.kind = 2 ∧ e.isSome = true) then ⟨2, op.path, [], (e.getD noE).data⟩
  else if op.kind = 2 then ⟨3, op.path, [], []⟩
  else ⟨4, op.path, [], []⟩

theorem treeDo_eq {t t' : List Ent} {op : Op} (ht : tOk t = true) (ho : opOkB op = true) (hc : codeT t op = 0) (hd : doT t op = t') : treeDo t op = (t', 0) := by
  unfold treeDo; rw [if_pos ht, if_pos ho, if_pos hc, hd]
theorem ok_plain {k : Int} {p : Str} (hp : pOk p = true) (hk : k = 1 ∨ k = 3 ∨ k = 4) : opOkB ⟨k, p, [], []⟩ = true := by
  rcases hk with rfl | rfl | rfl <;> simp [opOkB, hp] <;> decide
theorem ok_put {p d : Str} (hp : pOk p = true) (hd : dataOk d = true) : opOkB ⟨2, p, [], d⟩ = true := by
  simp [opOkB, hp, hd]
theorem ok_mov {f to : Str} (hf : pOk f = true) (ht : pOk to = true) : opOkB ⟨5, f, to, []⟩ = true := by
  simp [opOkB, hf, ht]
theorem up_ne {p : Str} (h : pOk p = true) : pUp p ≠ p := by
  by_cases hr : pUp p = [47]
  · rw [hr]; exact fun e => ok_ne_root h e.symm
  · intro e; have := up_lt h hr; rw [e, ltS_irr] at this; cases this

theorem isDir_put {t : List Ent} {n : Ent} {u : Str} (hu : isDir t u = true) (h : n.path ≠ u) : isDir (put t n) u = true := by
  unfold isDir get at hu ⊢
  by_cases hr : u = [47]
  · rw [if_pos hr]; rfl
  rw [if_neg hr] at hu ⊢
  have e : find (put t n) u = if n.path = u then some n else find t u := fnd_put
  rw [e, if_neg h]; exact hu
theorem isDir_off {t : List Ent} (hs : Srt Ent.path t) {p u : Str} (hu : isDir t u = true) (h : u ≠ p) : isDir (offT t p) u = true := by
  unfold isDir get at hu ⊢
  by_cases hr : u = [47]
  · rw [if_pos hr]; rfl
  rw [if_neg hr] at hu ⊢
  rw [find_off hs, if_neg h]; exact hu
theorem off_put {t : List Ent} (hs : Srt Ent.path t) {n : Ent} (h : find t n.path = none) : offT (put t n) n.path = t := by
  refine srt_ext (srt_filter (srt_put hs) _) hs fun p => ?_
  show find (offT (put t n) n.path) p = find t p
  rw [find_off (srt_put hs)]
  by_cases hp : p = n.path
  · rw [if_pos hp, hp, h]
  · rw [if_neg hp]
    have e : find (put t n) p = if n.path = p then some n else find t p := fnd_put
    rw [e, if_neg (fun e => hp e.symm)]
theorem put_back {t t' : List Ent} (hs : Srt Ent.path t) (hs' : Srt Ent.path t') {n : Ent} (h : find t n.path = some n) (hf : ∀ p, p ≠ n.path → find t' p = find t p) : put t' n = t := by
  refine srt_ext (srt_put hs') hs fun p => ?_
  have e : find (put t' n) p = if n.path = p then some n else find t' p := fnd_put
  show find (put t' n) p = find t p
  rw [e]
  by_cases hp : n.path = p
  · rw [if_pos hp, ← hp, h]
  · rw [if_neg hp, hf p fun e => hp e.symm]
theorem off_len {t : List Ent} {p : Str} {e : Ent} (h : find t p = some e) : (offT t p).length < t.length := by
  obtain ⟨h1, h2⟩ := find_path h
  exact List.length_filter_lt_length_iff_exists.2 ⟨e, h2, by simp [h1]⟩

theorem back_ok {t : List Ent} {op : Op} (ht : TG t) (ho : opOkB op = true) (hc : codeT t op = 0) : treeDo (doT t op) (backOp op (find t op.path)) = (t, 0) := by
  have hp := op_path ho
  have hg := doT_ok ht ho hc
  have hk := op_kind ho
  have hgk := hg.tOk
  unfold codeT at hc
  unfold doT at hg hgk ⊢
  by_cases h1 : op.kind = 1
  · rw [if_pos h1] at hc hg hgk ⊢
    obtain ⟨a, b, c⟩ := (new0 hp).1 hc
    have eb : backOp op (find t op.path) = ⟨4, op.path, [], []⟩ := by
      unfold backOp; rw [if_neg (by omega), if_neg (by omega), if_neg (by omega), if_neg (by omega)]
    rw [eb]
    refine treeDo_eq hgk (ok_plain hp (by omega)) ?_ ?_
    · unfold codeT
      rw [if_neg (by simp), if_neg (by simp), if_neg (by simp)]
      refine (off0 (op := ⟨4, op.path, [], []⟩) hg hp (.inr rfl)).2 ⟨⟨op.path, true, []⟩, ?_, rfl, ?_⟩
      · exact (fnd_put (key := Ent.path)).trans (if_pos rfl)
      · cases hkd : kids (put t ⟨op.path, true, []⟩) op.path with
        | nil => rfl
        | cons x l =>
          exfalso
          have hne : kids (put t ⟨op.path, true, []⟩) op.path ≠ [] := by rw [hkd]; simp
          unfold kids at hne
          rw [ne_eq, List.map_eq_nil_iff, List.filter_eq_nil_iff] at hne
          refine hne fun e he hh => ?_
          rcases (mem_put' ht.srt).1 he with rfl | he
          · exact up_ne hp (beq_iff_eq.1 hh)
          · have := ht.up e he.1
            rw [beq_iff_eq.1 hh] at this
            rw [ht.isDir_ent hp this] at b; cases b
    · unfold doT
      rw [if_neg (by simp), if_neg (by simp), if_neg (by simp)]
      exact off_put ht.srt (n := ⟨op.path, true, []⟩) b
  rw [if_neg h1] at hc hg hgk ⊢
  by_cases h2 : op.kind = 2
  · rw [if_pos h2] at hc hg hgk ⊢
    obtain ⟨a, b⟩ := put0 hp hc
    have hup : isDir (put t ⟨op.path, false, op.data⟩) (pUp op.path) = true := isDir_put a fun e => up_ne hp e.symm
    have hf : find (put t ⟨op.path, false, op.data⟩) op.path = some ⟨op.path, false, op.data⟩ := (fnd_put (key := Ent.path)).trans (if_pos rfl)
    rcases b with ⟨b, c⟩ | ⟨e, b, c⟩
    · have eb : backOp op (find t op.path) = ⟨3, op.path, [], []⟩ := by
        unfold backOp; rw [if_neg (by omega), if_neg (by omega), if_neg (by rw [b]; simp; omega), if_pos h2]
      rw [eb]
      refine treeDo_eq hgk (ok_plain hp (by omega)) ?_ ?_
      · unfold codeT
        rw [if_neg (by simp), if_neg (by simp), if_neg (by simp)]
        refine (off0 (op := ⟨3, op.path, [], []⟩) hg hp (.inl rfl)).2 ⟨_, hf, rfl, kids_nil hg hp ?_⟩
        unfold isDir; rw [get_find hp, hf]
      · unfold doT
        rw [if_neg (by simp), if_neg (by simp), if_neg (by simp)]
        exact off_put ht.srt (n := ⟨op.path, false, op.data⟩) b
    · have eb : backOp op (find t op.path) = ⟨2, op.path, [], e.data⟩ := by
        unfold backOp; rw [if_neg (by omega), if_neg (by omega), if_pos (by rw [b]; exact .inr ⟨h2, rfl⟩), b]; rfl
      rw [eb]
      obtain ⟨e1, e2⟩ := find_path b
      have hn : find t op.path = some ⟨op.path, false, e.data⟩ := by rw [b, ← e1, ← c]
      refine treeDo_eq hgk (ok_put hp (ht.datOk e2)) ?_ ?_
      · unfold codeT
        rw [if_neg (by simp), if_pos rfl]
        show putC (put t ⟨op.path, false, op.data⟩) op.path = 0
        have h4 : newC (put t ⟨op.path, false, op.data⟩) op.path = 4 := by
          unfold newC
          rw [if_neg (by simp [upC_0.2 hup]), get_find hp, hf]; rfl
        unfold putC
        rw [if_pos h4, get_find hp, hf]; rfl
      · unfold doT
        rw [if_neg (by simp), if_pos rfl]
        refine put_back ht.srt hg.srt (n := ⟨op.path, false, e.data⟩) hn fun p hpn => ?_
        exact (fnd_put (key := Ent.path)).trans (if_neg fun e => hpn e.symm)
  rw [if_neg h2] at hc hg hgk ⊢
  by_cases h5 : op.kind = 5
  · rw [if_pos h5] at hc hg hgk ⊢
    have hv := MV.of ht ho h5 hc
    have eb : backOp op (find t op.path) = ⟨5, op.dest, op.path, []⟩ := by unfold backOp; rw [if_pos h5]
    rw [eb]
    obtain ⟨q1, q2⟩ := hv.spec
    have hsame : ∀ {e : Ent}, e ∈ movT t op.path op.dest → ∃ x ∈ t, movE op.path op.dest x = e ∧ movE op.dest op.path e = x := fun he => by
      obtain ⟨x, hx, rfl⟩ := (q2 _).1 he
      exact ⟨x, hx, rfl, hv.inv hx⟩
    obtain ⟨ef, hef⟩ := hv.frm
    obtain ⟨f1, f2⟩ := find_path hef
    have hto : (movE op.path op.dest ef).path = op.dest := by
      have := (hv.at f2 (by unfold blw; simp [f1])).1
      rw [this, f1]; simp
    have hm0 : movC (movT t op.path op.dest) ⟨5, op.dest, op.path, []⟩ = 0 := by
      refine (mov0 (op := ⟨5, op.dest, op.path, []⟩) hv.pt hp).2 ⟨⟨movE op.path op.dest ef, ?_⟩, ?_, ?_, ?_, ?_⟩
      · have := fnd_mem q1 ((q2 _).2 ⟨ef, f2, rfl⟩)
        rw [hto] at this; exact this
      · by_cases hr : pUp op.path = [47]
        · show isDir _ (pUp op.path) = true
          rw [hr]; exact isDir_root
        obtain ⟨u1, _⟩ := pOk_up hp hr
        have hup := ht.up ef f2
        rw [f1] at hup
        obtain ⟨d1, d2⟩ := find_path (ht.isDir_ent u1 hup)
        have hb : blw (pUp op.path) op.path = false := by
          cases hb : blw (pUp op.path) op.path with
          | false => rfl
          | true =>
            unfold blw at hb
            simp only [Bool.or_eq_true, beq_iff_eq] at hb
            rcases hb with hb | hb
            · exact absurd hb (up_ne hp)
            · have h1 := und_lt hb hv.fr
              have h2 := up_lt hp hr
              rw [ltS_asym h1] at h2; cases h2
        refine isDir_of q1 u1 ((q2 _).2 ⟨_, d2, rfl⟩) ?_ rfl
        rw [hv.stay d2 hb]
      · show find (movT t op.path op.dest) op.path = none
        cases hfn : find (movT t op.path op.dest) op.path with
        | none => rfl
        | some y =>
          exfalso
          obtain ⟨y1, y2⟩ := find_path hfn
          obtain ⟨x, hx, h3, _⟩ := hsame y2
          rw [← h3] at y1
          cases hb : blw x.path op.path with
          | true =>
            have := hv.blw_to hx
            rw [hb, y1] at this
            have hc2 := hv.clear f2
            rw [f1, this] at hc2; cases hc2
          | false =>
            rw [hv.stay hx hb] at y1
            unfold blw at hb
            simp [y1] at hb
      · show und op.path op.dest = false
        have := hv.clear f2
        unfold blw at this
        rw [f1] at this
        simp only [Bool.or_eq_false_iff] at this
        exact this.2
      · intro e he
        obtain ⟨x, hx, h3, h4⟩ := hsame he
        show (pMove e.path op.dest op.path).isSome = true
        cases hm : pMove e.path op.dest op.path with
        | some _ => rfl
        | none =>
          exfalso
          unfold movE at h4
          rw [hm] at h4
          have := ht.path hx
          rw [← h4] at this
          exact absurd this (by simp [pOk, names])
    refine treeDo_eq hgk (ok_mov hv.pt hp) ?_ ?_
    · unfold codeT
      rw [if_neg (by simp), if_neg (by simp), if_pos rfl]
      exact hm0
    · unfold doT
      rw [if_neg (by simp), if_neg (by simp), if_pos rfl]
      have hv2 := MV.of (op := ⟨5, op.dest, op.path, []⟩) hv.ok (ok_mov hv.pt hp) rfl hm0
      obtain ⟨z1, z2⟩ := hv2.spec
      refine srt_mem_ext z1 ht.srt fun e => ?_
      show e ∈ movT (movT t op.path op.dest) op.dest op.path ↔ _
      rw [z2]
      constructor
      · rintro ⟨y, hy, rfl⟩
        obtain ⟨x, hx, _, h4⟩ := hsame hy
        show movE op.dest op.path y ∈ t
        rw [h4]; exact hx
      · intro he
        exact ⟨movE op.path op.dest e, (q2 _).2 ⟨e, he, rfl⟩, hv.inv he⟩
  rw [if_neg h5] at hc hg hgk ⊢
  obtain ⟨e, b, c, d⟩ := (off0 ht hp (by omega)).1 hc
  obtain ⟨e1, e2⟩ := find_path b
  have hup : isDir (offT t op.path) (pUp op.path) = true := by
    have := ht.up e e2
    rw [e1] at this
    exact isDir_off ht.srt this (up_ne hp)
  have hnone : find (offT t op.path) op.path = none := by rw [find_off ht.srt, if_pos rfl]
  have hl := off_len b
  have hlt := ht.len
  have hnew : newC (offT t op.path) op.path = 0 := (new0 hp).2 ⟨hup, hnone, by omega⟩
  by_cases h4 : op.kind = 4
  · have eb : backOp op (find t op.path) = ⟨1, op.path, [], []⟩ := by unfold backOp; rw [if_neg (by omega), if_pos h4]
    rw [eb]
    refine treeDo_eq hgk (ok_plain hp (by omega)) ?_ ?_
    · unfold codeT; rw [if_pos rfl]; exact hnew
    · unfold doT
      rw [if_pos rfl]
      have hd : isDir t op.path = true := by
        unfold isDir
        rw [get_find hp, b]
        show e.dir = true
        rw [c, h4]; rfl
      refine put_back ht.srt hg.srt (n := ⟨op.path, true, []⟩) (ht.isDir_ent hp hd) fun p hpn => ?_
      rw [find_off ht.srt, if_neg hpn]
  · have h3 : op.kind = 3 := by omega
    have eb : backOp op (find t op.path) = ⟨2, op.path, [], e.data⟩ := by unfold backOp; rw [if_neg (by omega), if_neg h4, if_pos (.inl h3), b]; rfl
    rw [eb]
    have hn : find t op.path = some ⟨op.path, false, e.data⟩ := by
      rw [b, ← e1]
      have : e.dir = false := by rw [c, h3]; rfl
      rw [← this]
    refine treeDo_eq hgk (ok_put hp (ht.datOk e2)) ?_ ?_
    · unfold codeT
      rw [if_neg (by simp), if_pos rfl]
      show putC (offT t op.path) op.path = 0
      unfold putC
      rw [if_neg (by rw [hnew]; decide), hnew]
    · unfold doT
      rw [if_neg (by simp), if_pos rfl]
      refine put_back ht.srt hg.srt (n := ⟨op.path, false, e.data⟩) hn fun p hpn => ?_
      rw [find_off ht.srt, if_neg hpn]

end Go.Proofs.YthblflnfhdnpdaaGreatDoor
