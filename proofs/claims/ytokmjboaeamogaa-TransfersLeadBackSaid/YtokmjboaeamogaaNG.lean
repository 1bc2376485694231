/- In place of NBase where the groups stand. No condition. -/
import Derived.Test.YtokmjboaeamogaaBF
import Derived.Test.YtokmjboaeamogaaBD
import Derived.Test.YtokmjboaeamogaaBC
import Derived.Test.YtokmjboaeamogaaBB
